/-
  The tree's walks: rename.
-/
import Derived.Test.YtcgpmnlondnbhaaDoorTreeMove
import Derived.LaidEqlPtr
namespace Go.Proofs.YtcgpmnlondnbhaaDoor
open Go Go.RowKit Txt Sp

theorem pt_thing : Tryd.prog.underlying 63 = some (.pointer 66) := by kernel_rfl
theorem info_size : (Tryd.prog.info? 66).map (fun j => j.size != 0) = some true := by kernel_rfl
theorem info_thing : ∃ j, Tryd.prog.info? 66 = some j ∧ j.size ≠ 0 := by
  obtain ⟨j, h1, h2⟩ := Option.map_eq_some_iff.1 info_size
  exact ⟨j, h1, by simpa using h2⟩
theorem eql_none (w : World) (a : Addr) : (binOp .eql 63 (.pointer none) (.pointer (some a))).run Tryd.prog w = .ok (.bool false) w := by
  have h : ∀ d : Nat, (Op.equalIn (d + 1) 63 (.pointer none) (.pointer (some a))).run Tryd.prog w = .ok false w := fun d => by
    simp [Op.equalIn, run_underlying pt_thing]
  simp only [binOp]
  simp [Op.equal, Op.maxDepth, h 9999]
theorem eql_same (w : World) (a : Addr) : (binOp .eql 63 (.pointer (some a)) (.pointer (some a))).run Tryd.prog w = .ok (.bool true) w :=
  let ⟨_, h, _⟩ := info_thing
  run_eql_ptr_same w a pt_thing h
theorem eql_other {w : World} {a b : Nat} {da db : ByteArray} {na nb : Nat} {ma mb : Option Nat} (ha : w.heap[a]? = some (thingO da na ma)) (hb : w.heap[b]? = some (thingO db nb mb)) (hne : a ≠ b) :
    (binOp .eql 63 (.pointer (some ⟨a, 0, none⟩)) (.pointer (some ⟨b, 0, none⟩))).run Tryd.prog w = .ok (.bool false) w :=
  let ⟨_, h, h0⟩ := info_thing
  run_eql_ptr_other w pt_thing h h0 (fun e => hne (congrArg Addr.block e)) ha hb

section
set_option maxHeartbeats 2000000





theorem rename_any {w : World} {B : Nat} {t : Sp.Tree} {φ μ : Nat → Nat} (hR : Rep w B t φ μ) (hok : t.Ok) (p tt : ByteArray) (hm : MaxOk w) (hs : p.size ≤ 4000000000) (hs2 : tt.size ≤ 4000000000) (hlinks : ∀ i, t.links i ≤ 1000000) (hk : ∀ q, (t.kidsL q).length ≤ 1000000) :
    Calls Tryd.prog 29 #[ptr B, .string p, .string tt] w (OpPost (t.rename p tt) w B t φ μ) := by
  have m1 := fun (r : Option Nat) (w : World) => run_eql_map_nil (P := Tryd.prog) w 64 _ _ r ht_map
  have m2 := fun (r : Option Nat) (w : World) => run_neq_map_nil (P := Tryd.prog) w 64 _ _ r ht_map
  have p1 := eql_none
  have p2 := eql_same
  have HR := Lib.hid hR
  have HOK := Lib.hid hok
  have HLk := Lib.hid hlinks
  have HK := Lib.hid hk
  obtain ⟨c, hc⟩ : ∃ c, t.dirC p = c := ⟨_, rfl⟩
  have HC := Lib.hid hc
  clear hR hok hlinks hk
  by_cases h0 : c = 0
  rotate_left
  · have HM := Lib.hid (rename_err (tt := tt) hc h0)
    have hc0 : (c == 0) = false := beq_eq_false_iff_ne.2 h0
    clear hc h0
    go_enter Tryd.func29, Tryd.ntmps29
    go_wp2_with fail
    refine (place_any HR.out HOK.out p hm hs).mono ?_
    rintro e w1 ⟨⟨v, s, rfl, hpl⟩, hb⟩
    rw [HC.out]
    have HB := Lib.hid hb
    clear hpl hb
    go_wp2
    go_ret
    exact OpPost.same HM.out HR.out (HB.out.alloc HB.out.size _)
  subst h0
  clear hc
  obtain ⟨r, hr⟩ : ∃ r, t.find (full p) = r := ⟨_, rfl⟩
  have HF := Lib.hid hr
  cases r with
  | none =>
    have HM := Lib.hid (rename_none (tt := tt) HC.out hr)
    clear hr
    go_enter Tryd.func29, Tryd.ntmps29
    go_wp2_with fail
    refine (place_any HR.out HOK.out p hm hs).mono ?_
    rintro e w1 ⟨⟨v, s, rfl, hpl⟩, hb⟩
    obtain ⟨l, a, h1, h2, h3, h4, h5, rfl⟩ := hpl HC.out
    rw [HC.out]
    have HB1 := Lib.hid hb
    have HR1 := Lib.hid (HR.out.below hb)
    have H2 := Lib.hid h2
    have H3 := Lib.hid h3
    have H4 := Lib.hid h4
    clear hpl hb h1 h2 h3 h4 h5
    go_wp2_with fail
    refine (is_any (HR1.out.below ((Below.refl _ _).alloc (Nat.le_refl _) _)) H3.out H4.out s).mono ?_
    rintro e w2 ⟨rfl, hb2⟩
    have hb12 := below_next ((Below.refl w1.heap.size w1).alloc (Nat.le_refl _) _) hb2
    have HP2 : Hid (w2.heap[w1.heap.size]? = some (.cells #[ptr (φ a), .string s] 88 (0, 0))) := heap_below hb2 _ _ (heap_alloc_new w1 _)
    have HB2 := Lib.hid (below_next HB1.out hb12)
    have HR2 := Lib.hid (HR.out.below HB2.out)
    have hm2 := hm.below HB2.out
    rw [← H2.out, HF.out]
    clear hb2 hb12
    simp only [Option.map_none, ptrO]
    go_wp2
    go_ret
    exact OpPost.same HM.out HR.out HB2.out
  | some i =>
    have HI := Lib.hid (find_idOf HOK.out hr)
    clear hr
    obtain ⟨lt, xt, ct, hlt⟩ : ∃ lt xt ct, lastN tt = (lt, xt, ct) := ⟨_, _, _, rfl⟩
    have HL := Lib.hid hlt
    have HL2 : Hid ((lastN tt).2.2 = ct) := by show (lastN tt).2.2 = ct; rw [hlt]
    clear hlt
    by_cases h0 : ct = 0
    rotate_left
    · have HM := Lib.hid (rename_err2 HC.out HF.out HL2.out h0)
      have hc0 : (ct == 0) = false := beq_eq_false_iff_ne.2 h0
      clear h0
      go_enter Tryd.func29, Tryd.ntmps29
      go_wp2_with fail
      refine (place_any HR.out HOK.out p hm hs).mono ?_
      rintro e w1 ⟨⟨v, s, rfl, hpl⟩, hb⟩
      obtain ⟨l, a, h1, h2, h3, h4, h5, rfl⟩ := hpl HC.out
      rw [HC.out]
      have HB1 := Lib.hid hb
      have HR1 := Lib.hid (HR.out.below hb)
      have H2 := Lib.hid h2
      have H3 := Lib.hid h3
      have H4 := Lib.hid h4
      clear hpl hb h1 h2 h3 h4 h5
      go_wp2_with fail
      refine (is_any (HR1.out.below ((Below.refl _ _).alloc (Nat.le_refl _) _)) H3.out H4.out s).mono ?_
      rintro e w2 ⟨rfl, hb2⟩
      have hb12 := below_next ((Below.refl w1.heap.size w1).alloc (Nat.le_refl _) _) hb2
      have HP2 : Hid (w2.heap[w1.heap.size]? = some (.cells #[ptr (φ a), .string s] 88 (0, 0))) := heap_below hb2 _ _ (heap_alloc_new w1 _)
      have HB2 := Lib.hid (below_next HB1.out hb12)
      have HR2 := Lib.hid (HR.out.below HB2.out)
      have hm2 := hm.below HB2.out
      rw [← H2.out, HF.out]
      clear hb2 hb12
      simp only [Option.map_some, ptrO, ptr]
      go_wp2_with fail
      refine (last_triple HL _ hm2 hs2).mono ?_
      rintro e w3 ⟨ad3, n3, rfl, _, hb⟩
      have HB3 := Lib.hid (below_next HB2.out hb)
      have HP3 := Lib.hid (heap_below hb _ _ HP2.out)
      have HR3 := Lib.hid (HR.out.below HB3.out)
      have hm3 := hm.below HB3.out
      clear hb
      go_wp2
      go_ret
      exact OpPost.same HM.out HR.out HB3.out
    subst h0
    obtain ⟨n, hn⟩ : ∃ n : Bool, decide (full p <+: full tt) = n := ⟨_, rfl⟩
    have HN := Lib.hid hn
    have HU : Hid (underN p tt = (n, 0)) := by show underN p tt = (n, 0); rw [under_full (dirC_last HC.out) HL2.out, hn]
    clear hn
    by_cases hloop : t.isDir i = true ∧ n = true ∧ p ≠ tt
    · obtain ⟨hd, rfl, hne⟩ := hloop
      have HM := Lib.hid (rename_loop HC.out HF.out HL2.out ⟨hd, of_decide_eq_true HN.out, hne⟩)
      have HD := Lib.hid hd
      have q' : (p.toList == tt.toList) = false := (text_eq p tt).trans (decide_eq_false hne)
      clear hd hne
      go_enter Tryd.func29, Tryd.ntmps29
      go_wp2_with fail
      refine (place_any HR.out HOK.out p hm hs).mono ?_
      rintro e w1 ⟨⟨v, s, rfl, hpl⟩, hb⟩
      obtain ⟨l, a, h1, h2, h3, h4, h5, rfl⟩ := hpl HC.out
      rw [HC.out]
      have HB1 := Lib.hid hb
      have HR1 := Lib.hid (HR.out.below hb)
      have H2 := Lib.hid h2
      have H3 := Lib.hid h3
      have H4 := Lib.hid h4
      clear hpl hb h1 h2 h3 h4 h5
      go_wp2_with fail
      refine (is_any (HR1.out.below ((Below.refl _ _).alloc (Nat.le_refl _) _)) H3.out H4.out s).mono ?_
      rintro e w2 ⟨rfl, hb2⟩
      have hb12 := below_next ((Below.refl w1.heap.size w1).alloc (Nat.le_refl _) _) hb2
      have HP2 : Hid (w2.heap[w1.heap.size]? = some (.cells #[ptr (φ a), .string s] 88 (0, 0))) := heap_below hb2 _ _ (heap_alloc_new w1 _)
      have HB2 := Lib.hid (below_next HB1.out hb12)
      have HR2 := Lib.hid (HR.out.below HB2.out)
      have hm2 := hm.below HB2.out
      rw [← H2.out, HF.out]
      clear hb2 hb12
      simp only [Option.map_some, ptrO, ptr]
      go_wp2_with fail
      refine (last_triple HL _ hm2 hs2).mono ?_
      rintro e w3 ⟨ad3, n3, rfl, _, hb⟩
      have HB3 := Lib.hid (below_next HB2.out hb)
      have HP3 := Lib.hid (heap_below hb _ _ HP2.out)
      have HR3 := Lib.hid (HR.out.below HB3.out)
      have hm3 := hm.below HB3.out
      clear hb
      go_wp2_with fail
      refine (under_pair HU _ hm3 hs hs2).mono ?_
      rintro e w4 ⟨rfl, hb⟩
      have HB4 := Lib.hid (below_next HB3.out hb)
      have HP4 := Lib.hid (heap_below hb _ _ HP3.out)
      have HR4 := Lib.hid (HR.out.below HB4.out)
      have hm4 := hm.below HB4.out
      clear hb
      have c2 := HR4.out.dirCell HI.out HD.out
      go_wp2
      go_ret
      exact OpPost.same HM.out HR.out HB4.out
    have HNL : Hid (¬ (t.isDir i = true ∧ full p <+: full tt ∧ p ≠ tt)) := fun h => hloop ⟨h.1, by rw [← HN.out]; exact decide_eq_true h.2.1, h.2.2⟩
    obtain ⟨c, hc⟩ : ∃ c, t.dirC tt = c := ⟨_, rfl⟩
    have HC2 := Lib.hid hc
    by_cases h0 : c = 0
    rotate_left
    · have HM := Lib.hid (rename_err3 HC.out HF.out HL2.out HNL.out hc h0)
      have hc0 : (c == 0) = false := beq_eq_false_iff_ne.2 h0
      have hne : p ≠ tt := fun e => h0 (by rw [← hc, ← e]; exact HC.out)
      have hsk : Hid (n = false ∨ t.isDir i = false) := by
        cases n with
        | false => exact Or.inl rfl
        | true => exact Or.inr (by cases hd : t.isDir i with | false => rfl | true => exact absurd ⟨hd, rfl, hne⟩ hloop)
      clear hc h0 hloop hne
      rcases hsk.out with rfl | hd
      · go_enter Tryd.func29, Tryd.ntmps29
        go_wp2_with fail
        refine (place_any HR.out HOK.out p hm hs).mono ?_
        rintro e w1 ⟨⟨v, s, rfl, hpl⟩, hb⟩
        obtain ⟨l, a, h1, h2, h3, h4, h5, rfl⟩ := hpl HC.out
        rw [HC.out]
        have HB1 := Lib.hid hb
        have HR1 := Lib.hid (HR.out.below hb)
        have H2 := Lib.hid h2
        have H3 := Lib.hid h3
        have H4 := Lib.hid h4
        clear hpl hb h1 h2 h3 h4 h5
        go_wp2_with fail
        refine (is_any (HR1.out.below ((Below.refl _ _).alloc (Nat.le_refl _) _)) H3.out H4.out s).mono ?_
        rintro e w2 ⟨rfl, hb2⟩
        have hb12 := below_next ((Below.refl w1.heap.size w1).alloc (Nat.le_refl _) _) hb2
        have HP2 : Hid (w2.heap[w1.heap.size]? = some (.cells #[ptr (φ a), .string s] 88 (0, 0))) := heap_below hb2 _ _ (heap_alloc_new w1 _)
        have HB2 := Lib.hid (below_next HB1.out hb12)
        have HR2 := Lib.hid (HR.out.below HB2.out)
        have hm2 := hm.below HB2.out
        rw [← H2.out, HF.out]
        clear hb2 hb12
        simp only [Option.map_some, ptrO, ptr]
        go_wp2_with fail
        refine (last_triple HL _ hm2 hs2).mono ?_
        rintro e w3 ⟨ad3, n3, rfl, _, hb⟩
        have HB3 := Lib.hid (below_next HB2.out hb)
        have HP3 := Lib.hid (heap_below hb _ _ HP2.out)
        have HR3 := Lib.hid (HR.out.below HB3.out)
        have hm3 := hm.below HB3.out
        clear hb
        go_wp2_with fail
        refine (under_pair HU _ hm3 hs hs2).mono ?_
        rintro e w4 ⟨rfl, hb⟩
        have HB4 := Lib.hid (below_next HB3.out hb)
        have HP4 := Lib.hid (heap_below hb _ _ HP3.out)
        have HR4 := Lib.hid (HR.out.below HB4.out)
        have hm4 := hm.below HB4.out
        clear hb
        go_wp2_with fail
        refine (place_any HR4.out HOK.out tt hm4 hs2).mono ?_
        rintro e w5 ⟨⟨v, s2, rfl, hpl⟩, hb⟩
        rw [HC2.out]
        have HB5 := Lib.hid (below_next HB4.out hb)
        clear hpl hb
        go_wp2
        go_ret
        exact OpPost.same HM.out HR.out (HB5.out.alloc HB5.out.size _)
      · have HD := Lib.hid hd
        clear hd
        go_enter Tryd.func29, Tryd.ntmps29
        go_wp2_with fail
        refine (place_any HR.out HOK.out p hm hs).mono ?_
        rintro e w1 ⟨⟨v, s, rfl, hpl⟩, hb⟩
        obtain ⟨l, a, h1, h2, h3, h4, h5, rfl⟩ := hpl HC.out
        rw [HC.out]
        have HB1 := Lib.hid hb
        have HR1 := Lib.hid (HR.out.below hb)
        have H2 := Lib.hid h2
        have H3 := Lib.hid h3
        have H4 := Lib.hid h4
        clear hpl hb h1 h2 h3 h4 h5
        go_wp2_with fail
        refine (is_any (HR1.out.below ((Below.refl _ _).alloc (Nat.le_refl _) _)) H3.out H4.out s).mono ?_
        rintro e w2 ⟨rfl, hb2⟩
        have hb12 := below_next ((Below.refl w1.heap.size w1).alloc (Nat.le_refl _) _) hb2
        have HP2 : Hid (w2.heap[w1.heap.size]? = some (.cells #[ptr (φ a), .string s] 88 (0, 0))) := heap_below hb2 _ _ (heap_alloc_new w1 _)
        have HB2 := Lib.hid (below_next HB1.out hb12)
        have HR2 := Lib.hid (HR.out.below HB2.out)
        have hm2 := hm.below HB2.out
        rw [← H2.out, HF.out]
        clear hb2 hb12
        simp only [Option.map_some, ptrO, ptr]
        go_wp2_with fail
        refine (last_triple HL _ hm2 hs2).mono ?_
        rintro e w3 ⟨ad3, n3, rfl, _, hb⟩
        have HB3 := Lib.hid (below_next HB2.out hb)
        have HP3 := Lib.hid (heap_below hb _ _ HP2.out)
        have HR3 := Lib.hid (HR.out.below HB3.out)
        have hm3 := hm.below HB3.out
        clear hb
        go_wp2_with fail
        refine (under_pair HU _ hm3 hs hs2).mono ?_
        rintro e w4 ⟨rfl, hb⟩
        have HB4 := Lib.hid (below_next HB3.out hb)
        have HP4 := Lib.hid (heap_below hb _ _ HP3.out)
        have HR4 := Lib.hid (HR.out.below HB4.out)
        have hm4 := hm.below HB4.out
        clear hb
        have c2 := HR4.out.fileCell HOK.out HI.out HD.out
        cases n <;> (
            go_wp2_with fail
            refine (place_any HR4.out HOK.out tt hm4 hs2).mono ?_
            rintro e w5 ⟨⟨v, s2, rfl, hpl⟩, hb⟩
            rw [HC2.out]
            have HB5 := Lib.hid (below_next HB4.out hb)
            clear hpl hb
            go_wp2
            go_ret
            exact OpPost.same HM.out HR.out (HB5.out.alloc HB5.out.size _))
    subst h0
    clear hc
    obtain ⟨r, hr⟩ : ∃ r, t.find (full tt) = r := ⟨_, rfl⟩
    have HG := Lib.hid hr
    cases r with
    | none =>
      have HM := Lib.hid (rename_new HC.out HF.out HL2.out HNL.out HC2.out hr)
      have hne : p ≠ tt := fun e => by rw [← e, HF.out] at hr; cases hr
      have hsk : Hid (n = false ∨ t.isDir i = false) := by
        cases n with
        | false => exact Or.inl rfl
        | true => exact Or.inr (by cases hd : t.isDir i with | false => rfl | true => exact absurd ⟨hd, rfl, hne⟩ hloop)
      have HNP : Hid (t.isDir i = true → ¬ full p <+: full tt) := fun h1 h2 => HNL.out ⟨h1, h2, hne⟩
      clear hr hloop hne
      rcases hsk.out with rfl | hd
      · go_enter Tryd.func29, Tryd.ntmps29
        go_wp2_with fail
        refine (place_any HR.out HOK.out p hm hs).mono ?_
        rintro e w1 ⟨⟨v, s, rfl, hpl⟩, hb⟩
        obtain ⟨l, a, h1, h2, h3, h4, h5, rfl⟩ := hpl HC.out
        rw [HC.out]
        have HB1 := Lib.hid hb
        have HR1 := Lib.hid (HR.out.below hb)
        have H2 := Lib.hid h2
        have H3 := Lib.hid h3
        have H4 := Lib.hid h4
        clear hpl hb h1 h2 h3 h4 h5
        go_wp2_with fail
        refine (is_any (HR1.out.below ((Below.refl _ _).alloc (Nat.le_refl _) _)) H3.out H4.out s).mono ?_
        rintro e w2 ⟨rfl, hb2⟩
        have hb12 := below_next ((Below.refl w1.heap.size w1).alloc (Nat.le_refl _) _) hb2
        have HP2 : Hid (w2.heap[w1.heap.size]? = some (.cells #[ptr (φ a), .string s] 88 (0, 0))) := heap_below hb2 _ _ (heap_alloc_new w1 _)
        have HB2 := Lib.hid (below_next HB1.out hb12)
        have HR2 := Lib.hid (HR.out.below HB2.out)
        have hm2 := hm.below HB2.out
        rw [← H2.out, HF.out]
        clear hb2 hb12
        simp only [Option.map_some, ptrO, ptr]
        go_wp2_with fail
        refine (last_triple HL _ hm2 hs2).mono ?_
        rintro e w3 ⟨ad3, n3, rfl, _, hb⟩
        have HB3 := Lib.hid (below_next HB2.out hb)
        have HP3 := Lib.hid (heap_below hb _ _ HP2.out)
        have HR3 := Lib.hid (HR.out.below HB3.out)
        have hm3 := hm.below HB3.out
        clear hb
        go_wp2_with fail
        refine (under_pair HU _ hm3 hs hs2).mono ?_
        rintro e w4 ⟨rfl, hb⟩
        have HB4 := Lib.hid (below_next HB3.out hb)
        have HP4 := Lib.hid (heap_below hb _ _ HP3.out)
        have HR4 := Lib.hid (HR.out.below HB4.out)
        have hm4 := hm.below HB4.out
        clear hb
        go_wp2_with fail
        refine (place_any HR4.out HOK.out tt hm4 hs2).mono ?_
        rintro e w5 ⟨⟨v, s2, rfl, hpl⟩, hb⟩
        obtain ⟨l2, k, h1, h2, h3, h4, h5, rfl⟩ := hpl HC2.out
        rw [HC2.out]
        have HB5 := Lib.hid (below_next HB4.out hb)
        have HR5 := Lib.hid (HR.out.below HB5.out)
        have HP5 := Lib.hid (heap_below hb _ _ HP4.out)
        have G2 := Lib.hid h2
        have G3 := Lib.hid h3
        have G4 := Lib.hid h4
        have G5 := Lib.hid h5
        clear hpl hb h1 h2 h3 h4 h5
        go_wp2_with fail
        refine (is_any (HR5.out.below ((Below.refl _ _).alloc (Nat.le_refl _) _)) G3.out G4.out s2).mono ?_
        rintro e w6 ⟨rfl, hb2⟩
        have hb12 := below_next ((Below.refl w5.heap.size w5).alloc (Nat.le_refl _) _) hb2
        have HQ6 : Hid (w6.heap[w5.heap.size]? = some (.cells #[ptr (φ k), .string s2] 88 (0, 0))) := heap_below hb2 _ _ (heap_alloc_new w5 _)
        have HP6 := Lib.hid (heap_below hb12 _ _ HP5.out)
        have HB6 := Lib.hid (below_next HB5.out hb12)
        have HR6 := Lib.hid (HR.out.below HB6.out)
        have hm6 := hm.below HB6.out
        rw [← G2.out]
        clear hb2 hb12
        rw [HG.out]
        simp only [Option.map_none, ptrO]
        go_wp2_with fail
        have hon := onto_any HR6.out HOK.out HI.out (full tt) HK.out
        rw [HG.out] at hon
        refine hon.mono ?_
        rintro e wz ⟨rfl, hb⟩
        have HOC : Hid (t.ontoC i (full tt) = 0) := by show t.ontoC i (full tt) = 0; unfold Sp.Tree.ontoC; rw [HG.out]
        rw [HOC.out]
        have HBz := Lib.hid (below_next HB6.out hb)
        have HRz := Lib.hid (HR.out.below HBz.out)
        have HOKz := HOK
        have A3 := H3
        have A4 := H4
        have AF : Hid (t.find (l ++ [s]) = some i) := by show t.find (l ++ [s]) = some i; rw [← H2.out]; exact HF.out
        have K3 := G3
        have K4 := G4
        have KF : Hid (t.find (l2 ++ [s2]) = none) := by show t.find (l2 ++ [s2]) = none; rw [← G2.out]; exact HG.out
        have KL : Hid (t.isDir i = true → ¬ l ++ [s] <+: l2 ++ [s2]) := by
          show t.isDir i = true → ¬ l ++ [s] <+: l2 ++ [s2]
          rw [← H2.out, ← G2.out]; exact HNP.out
        have HLz := Lib.hid (HLk.out i)
        have HPz := Lib.hid (heap_below hb _ _ HP6.out)
        have HQz := Lib.hid (heap_below hb _ _ HQ6.out)
        have BND : Hid (φ i < w.heap.size ∧ μ a < w.heap.size) := ⟨HR.out.lt_thing HOK.out (has_idOf HOK.out HI.out), HR.out.lt_map HOK.out (has_idOf HOK.out H3.out) H4.out⟩
        have HTz : Hid (Turn (Rep.dom B t φ μ) w wz) := Turn.of_below HBz.out
        have HDz : Hid (∀ b, Rep.dom B t φ μ b → Rep.dom B t φ μ b) := fun _ h => h
        have HMz : Hid (t.rename p tt = (t.move (t.isDir i) (l ++ [s]) (l2 ++ [s2]), 0)) := by
          show t.rename p tt = (t.move (t.isDir i) (l ++ [s]) (l2 ++ [s2]), 0)
          rw [← H2.out, ← G2.out]; exact HM.out
        clear hb
        have c0 : wz.cell? ⟨w1.heap.size, 0, none⟩ = some (ptr (φ a)) := cell_of_heap HPz.out rfl
        have c1 : wz.cell? ⟨w1.heap.size, 1, none⟩ = some (.string s) := cell_of_heap HPz.out rfl
        unfold ptr at c0
        obtain ⟨hda, la, hla, _⟩ := HRz.out.dir a l A3.out A4.out
        have HDA := Lib.hid hda
        have HLA := Lib.hid hla
        have hget : Hid (getM la s = some (φ i)) := by
          show getM la s = some (φ i)
          rw [HRz.out.entries A3.out A4.out hla, AF.out]; rfl
        obtain ⟨di, mi, hti⟩ := HRz.out.thing HOKz.out (has_idOf HOKz.out (find_idOf HOKz.out AF.out))
        have HTi := Lib.hid hti
        clear hda hla hti
        go_wp2_with fail
        refine (away_any HDA.out HLA.out hget.out HTi.out HLz.out (links_pos HOKz.out AF.out)).mono ?_
        rintro e wy ⟨rfl, ⟨o4, ho4, hm4'⟩, hb4, hT4⟩
        obtain ⟨⟨lk, hlk⟩, dd, dn, hdk⟩ := put_ready HRz.out HOKz.out A3.out A4.out AF.out K3.out K4.out KL.out ho4 hm4' hT4
        have h15 : w.heap.size ≤ w5.heap.size := HB5.out.size
        have hQy : wy.heap[w5.heap.size]? = some (.cells #[ptr (φ k), .string s2] 88 (0, 0)) := hT4.heap HQz.out (by
          have := BND.out
          rintro (e | e) <;> omega)
        have d0 : wy.cell? ⟨w5.heap.size, 0, none⟩ = some (ptr (φ k)) := cell_of_heap hQy rfl
        have d1 : wy.cell? ⟨w5.heap.size, 1, none⟩ = some (.string s2) := cell_of_heap hQy rfl
        unfold ptr at d0
        have Hlk := Lib.hid hlk
        have Hdk := Lib.hid hdk
        have Ho4 := Lib.hid ho4
        have Hm4 := Lib.hid hm4'
        have Hb4 := Lib.hid hb4
        have HT4 := Lib.hid hT4
        clear hlk hdk ho4 hm4' hb4 hT4 hQy h15 c0 c1
        go_wp2_with fail
        refine (put_any Hdk.out Hlk.out Hb4.out (Nat.le_trans (Nat.sub_le _ _) HLz.out)).mono ?_
        rintro e wx ⟨rfl, ⟨o5, ho5, hm5⟩, hb5, hT5⟩
        go_wp2
        go_ret
        obtain ⟨h1, h2⟩ := moved_rep HRz.out HOKz.out A3.out A4.out AF.out K3.out K4.out G5.out KF.out KL.out HLA.out Hlk.out HTi.out (links_pos HOKz.out AF.out) Ho4.out Hm4.out HT4.out ho5 hm5 hb5 hT5
        unfold OpPost
        rw [HMz.out]
        exact ⟨rfl, h1, HTz.out.trans h2 (fun _ _ h => h) (fun b hb h => HDz.out b h), fun b h => HDz.out b h⟩
      · have HD := Lib.hid hd
        clear hd
        go_enter Tryd.func29, Tryd.ntmps29
        go_wp2_with fail
        refine (place_any HR.out HOK.out p hm hs).mono ?_
        rintro e w1 ⟨⟨v, s, rfl, hpl⟩, hb⟩
        obtain ⟨l, a, h1, h2, h3, h4, h5, rfl⟩ := hpl HC.out
        rw [HC.out]
        have HB1 := Lib.hid hb
        have HR1 := Lib.hid (HR.out.below hb)
        have H2 := Lib.hid h2
        have H3 := Lib.hid h3
        have H4 := Lib.hid h4
        clear hpl hb h1 h2 h3 h4 h5
        go_wp2_with fail
        refine (is_any (HR1.out.below ((Below.refl _ _).alloc (Nat.le_refl _) _)) H3.out H4.out s).mono ?_
        rintro e w2 ⟨rfl, hb2⟩
        have hb12 := below_next ((Below.refl w1.heap.size w1).alloc (Nat.le_refl _) _) hb2
        have HP2 : Hid (w2.heap[w1.heap.size]? = some (.cells #[ptr (φ a), .string s] 88 (0, 0))) := heap_below hb2 _ _ (heap_alloc_new w1 _)
        have HB2 := Lib.hid (below_next HB1.out hb12)
        have HR2 := Lib.hid (HR.out.below HB2.out)
        have hm2 := hm.below HB2.out
        rw [← H2.out, HF.out]
        clear hb2 hb12
        simp only [Option.map_some, ptrO, ptr]
        go_wp2_with fail
        refine (last_triple HL _ hm2 hs2).mono ?_
        rintro e w3 ⟨ad3, n3, rfl, _, hb⟩
        have HB3 := Lib.hid (below_next HB2.out hb)
        have HP3 := Lib.hid (heap_below hb _ _ HP2.out)
        have HR3 := Lib.hid (HR.out.below HB3.out)
        have hm3 := hm.below HB3.out
        clear hb
        go_wp2_with fail
        refine (under_pair HU _ hm3 hs hs2).mono ?_
        rintro e w4 ⟨rfl, hb⟩
        have HB4 := Lib.hid (below_next HB3.out hb)
        have HP4 := Lib.hid (heap_below hb _ _ HP3.out)
        have HR4 := Lib.hid (HR.out.below HB4.out)
        have hm4 := hm.below HB4.out
        clear hb
        have c2 := HR4.out.fileCell HOK.out HI.out HD.out
        cases n
        · go_wp2_with fail
          refine (place_any HR4.out HOK.out tt hm4 hs2).mono ?_
          rintro e w5 ⟨⟨v, s2, rfl, hpl⟩, hb⟩
          obtain ⟨l2, k, h1, h2, h3, h4, h5, rfl⟩ := hpl HC2.out
          rw [HC2.out]
          have HB5 := Lib.hid (below_next HB4.out hb)
          have HR5 := Lib.hid (HR.out.below HB5.out)
          have HP5 := Lib.hid (heap_below hb _ _ HP4.out)
          have G2 := Lib.hid h2
          have G3 := Lib.hid h3
          have G4 := Lib.hid h4
          have G5 := Lib.hid h5
          clear hpl hb h1 h2 h3 h4 h5
          go_wp2_with fail
          refine (is_any (HR5.out.below ((Below.refl _ _).alloc (Nat.le_refl _) _)) G3.out G4.out s2).mono ?_
          rintro e w6 ⟨rfl, hb2⟩
          have hb12 := below_next ((Below.refl w5.heap.size w5).alloc (Nat.le_refl _) _) hb2
          have HQ6 : Hid (w6.heap[w5.heap.size]? = some (.cells #[ptr (φ k), .string s2] 88 (0, 0))) := heap_below hb2 _ _ (heap_alloc_new w5 _)
          have HP6 := Lib.hid (heap_below hb12 _ _ HP5.out)
          have HB6 := Lib.hid (below_next HB5.out hb12)
          have HR6 := Lib.hid (HR.out.below HB6.out)
          have hm6 := hm.below HB6.out
          rw [← G2.out]
          clear hb2 hb12
          rw [HG.out]
          simp only [Option.map_none, ptrO]
          go_wp2_with fail
          have hon := onto_any HR6.out HOK.out HI.out (full tt) HK.out
          rw [HG.out] at hon
          refine hon.mono ?_
          rintro e wz ⟨rfl, hb⟩
          have HOC : Hid (t.ontoC i (full tt) = 0) := by show t.ontoC i (full tt) = 0; unfold Sp.Tree.ontoC; rw [HG.out]
          rw [HOC.out]
          have HBz := Lib.hid (below_next HB6.out hb)
          have HRz := Lib.hid (HR.out.below HBz.out)
          have HOKz := HOK
          have A3 := H3
          have A4 := H4
          have AF : Hid (t.find (l ++ [s]) = some i) := by show t.find (l ++ [s]) = some i; rw [← H2.out]; exact HF.out
          have K3 := G3
          have K4 := G4
          have KF : Hid (t.find (l2 ++ [s2]) = none) := by show t.find (l2 ++ [s2]) = none; rw [← G2.out]; exact HG.out
          have KL : Hid (t.isDir i = true → ¬ l ++ [s] <+: l2 ++ [s2]) := by
            show t.isDir i = true → ¬ l ++ [s] <+: l2 ++ [s2]
            rw [← H2.out, ← G2.out]; exact HNP.out
          have HLz := Lib.hid (HLk.out i)
          have HPz := Lib.hid (heap_below hb _ _ HP6.out)
          have HQz := Lib.hid (heap_below hb _ _ HQ6.out)
          have BND : Hid (φ i < w.heap.size ∧ μ a < w.heap.size) := ⟨HR.out.lt_thing HOK.out (has_idOf HOK.out HI.out), HR.out.lt_map HOK.out (has_idOf HOK.out H3.out) H4.out⟩
          have HTz : Hid (Turn (Rep.dom B t φ μ) w wz) := Turn.of_below HBz.out
          have HDz : Hid (∀ b, Rep.dom B t φ μ b → Rep.dom B t φ μ b) := fun _ h => h
          have HMz : Hid (t.rename p tt = (t.move (t.isDir i) (l ++ [s]) (l2 ++ [s2]), 0)) := by
            show t.rename p tt = (t.move (t.isDir i) (l ++ [s]) (l2 ++ [s2]), 0)
            rw [← H2.out, ← G2.out]; exact HM.out
          clear hb
          have c0 : wz.cell? ⟨w1.heap.size, 0, none⟩ = some (ptr (φ a)) := cell_of_heap HPz.out rfl
          have c1 : wz.cell? ⟨w1.heap.size, 1, none⟩ = some (.string s) := cell_of_heap HPz.out rfl
          unfold ptr at c0
          obtain ⟨hda, la, hla, _⟩ := HRz.out.dir a l A3.out A4.out
          have HDA := Lib.hid hda
          have HLA := Lib.hid hla
          have hget : Hid (getM la s = some (φ i)) := by
            show getM la s = some (φ i)
            rw [HRz.out.entries A3.out A4.out hla, AF.out]; rfl
          obtain ⟨di, mi, hti⟩ := HRz.out.thing HOKz.out (has_idOf HOKz.out (find_idOf HOKz.out AF.out))
          have HTi := Lib.hid hti
          clear hda hla hti
          go_wp2_with fail
          refine (away_any HDA.out HLA.out hget.out HTi.out HLz.out (links_pos HOKz.out AF.out)).mono ?_
          rintro e wy ⟨rfl, ⟨o4, ho4, hm4'⟩, hb4, hT4⟩
          obtain ⟨⟨lk, hlk⟩, dd, dn, hdk⟩ := put_ready HRz.out HOKz.out A3.out A4.out AF.out K3.out K4.out KL.out ho4 hm4' hT4
          have h15 : w.heap.size ≤ w5.heap.size := HB5.out.size
          have hQy : wy.heap[w5.heap.size]? = some (.cells #[ptr (φ k), .string s2] 88 (0, 0)) := hT4.heap HQz.out (by
            have := BND.out
            rintro (e | e) <;> omega)
          have d0 : wy.cell? ⟨w5.heap.size, 0, none⟩ = some (ptr (φ k)) := cell_of_heap hQy rfl
          have d1 : wy.cell? ⟨w5.heap.size, 1, none⟩ = some (.string s2) := cell_of_heap hQy rfl
          unfold ptr at d0
          have Hlk := Lib.hid hlk
          have Hdk := Lib.hid hdk
          have Ho4 := Lib.hid ho4
          have Hm4 := Lib.hid hm4'
          have Hb4 := Lib.hid hb4
          have HT4 := Lib.hid hT4
          clear hlk hdk ho4 hm4' hb4 hT4 hQy h15 c0 c1
          go_wp2_with fail
          refine (put_any Hdk.out Hlk.out Hb4.out (Nat.le_trans (Nat.sub_le _ _) HLz.out)).mono ?_
          rintro e wx ⟨rfl, ⟨o5, ho5, hm5⟩, hb5, hT5⟩
          go_wp2
          go_ret
          obtain ⟨h1, h2⟩ := moved_rep HRz.out HOKz.out A3.out A4.out AF.out K3.out K4.out G5.out KF.out KL.out HLA.out Hlk.out HTi.out (links_pos HOKz.out AF.out) Ho4.out Hm4.out HT4.out ho5 hm5 hb5 hT5
          unfold OpPost
          rw [HMz.out]
          exact ⟨rfl, h1, HTz.out.trans h2 (fun _ _ h => h) (fun b hb h => HDz.out b h), fun b h => HDz.out b h⟩
        · go_wp2_with fail
          refine (place_any HR4.out HOK.out tt hm4 hs2).mono ?_
          rintro e w5 ⟨⟨v, s2, rfl, hpl⟩, hb⟩
          obtain ⟨l2, k, h1, h2, h3, h4, h5, rfl⟩ := hpl HC2.out
          rw [HC2.out]
          have HB5 := Lib.hid (below_next HB4.out hb)
          have HR5 := Lib.hid (HR.out.below HB5.out)
          have HP5 := Lib.hid (heap_below hb _ _ HP4.out)
          have G2 := Lib.hid h2
          have G3 := Lib.hid h3
          have G4 := Lib.hid h4
          have G5 := Lib.hid h5
          clear hpl hb h1 h2 h3 h4 h5
          go_wp2_with fail
          refine (is_any (HR5.out.below ((Below.refl _ _).alloc (Nat.le_refl _) _)) G3.out G4.out s2).mono ?_
          rintro e w6 ⟨rfl, hb2⟩
          have hb12 := below_next ((Below.refl w5.heap.size w5).alloc (Nat.le_refl _) _) hb2
          have HQ6 : Hid (w6.heap[w5.heap.size]? = some (.cells #[ptr (φ k), .string s2] 88 (0, 0))) := heap_below hb2 _ _ (heap_alloc_new w5 _)
          have HP6 := Lib.hid (heap_below hb12 _ _ HP5.out)
          have HB6 := Lib.hid (below_next HB5.out hb12)
          have HR6 := Lib.hid (HR.out.below HB6.out)
          have hm6 := hm.below HB6.out
          rw [← G2.out]
          clear hb2 hb12
          rw [HG.out]
          simp only [Option.map_none, ptrO]
          go_wp2_with fail
          have hon := onto_any HR6.out HOK.out HI.out (full tt) HK.out
          rw [HG.out] at hon
          refine hon.mono ?_
          rintro e wz ⟨rfl, hb⟩
          have HOC : Hid (t.ontoC i (full tt) = 0) := by show t.ontoC i (full tt) = 0; unfold Sp.Tree.ontoC; rw [HG.out]
          rw [HOC.out]
          have HBz := Lib.hid (below_next HB6.out hb)
          have HRz := Lib.hid (HR.out.below HBz.out)
          have HOKz := HOK
          have A3 := H3
          have A4 := H4
          have AF : Hid (t.find (l ++ [s]) = some i) := by show t.find (l ++ [s]) = some i; rw [← H2.out]; exact HF.out
          have K3 := G3
          have K4 := G4
          have KF : Hid (t.find (l2 ++ [s2]) = none) := by show t.find (l2 ++ [s2]) = none; rw [← G2.out]; exact HG.out
          have KL : Hid (t.isDir i = true → ¬ l ++ [s] <+: l2 ++ [s2]) := by
            show t.isDir i = true → ¬ l ++ [s] <+: l2 ++ [s2]
            rw [← H2.out, ← G2.out]; exact HNP.out
          have HLz := Lib.hid (HLk.out i)
          have HPz := Lib.hid (heap_below hb _ _ HP6.out)
          have HQz := Lib.hid (heap_below hb _ _ HQ6.out)
          have BND : Hid (φ i < w.heap.size ∧ μ a < w.heap.size) := ⟨HR.out.lt_thing HOK.out (has_idOf HOK.out HI.out), HR.out.lt_map HOK.out (has_idOf HOK.out H3.out) H4.out⟩
          have HTz : Hid (Turn (Rep.dom B t φ μ) w wz) := Turn.of_below HBz.out
          have HDz : Hid (∀ b, Rep.dom B t φ μ b → Rep.dom B t φ μ b) := fun _ h => h
          have HMz : Hid (t.rename p tt = (t.move (t.isDir i) (l ++ [s]) (l2 ++ [s2]), 0)) := by
            show t.rename p tt = (t.move (t.isDir i) (l ++ [s]) (l2 ++ [s2]), 0)
            rw [← H2.out, ← G2.out]; exact HM.out
          clear hb
          have c0 : wz.cell? ⟨w1.heap.size, 0, none⟩ = some (ptr (φ a)) := cell_of_heap HPz.out rfl
          have c1 : wz.cell? ⟨w1.heap.size, 1, none⟩ = some (.string s) := cell_of_heap HPz.out rfl
          unfold ptr at c0
          obtain ⟨hda, la, hla, _⟩ := HRz.out.dir a l A3.out A4.out
          have HDA := Lib.hid hda
          have HLA := Lib.hid hla
          have hget : Hid (getM la s = some (φ i)) := by
            show getM la s = some (φ i)
            rw [HRz.out.entries A3.out A4.out hla, AF.out]; rfl
          obtain ⟨di, mi, hti⟩ := HRz.out.thing HOKz.out (has_idOf HOKz.out (find_idOf HOKz.out AF.out))
          have HTi := Lib.hid hti
          clear hda hla hti
          go_wp2_with fail
          refine (away_any HDA.out HLA.out hget.out HTi.out HLz.out (links_pos HOKz.out AF.out)).mono ?_
          rintro e wy ⟨rfl, ⟨o4, ho4, hm4'⟩, hb4, hT4⟩
          obtain ⟨⟨lk, hlk⟩, dd, dn, hdk⟩ := put_ready HRz.out HOKz.out A3.out A4.out AF.out K3.out K4.out KL.out ho4 hm4' hT4
          have h15 : w.heap.size ≤ w5.heap.size := HB5.out.size
          have hQy : wy.heap[w5.heap.size]? = some (.cells #[ptr (φ k), .string s2] 88 (0, 0)) := hT4.heap HQz.out (by
            have := BND.out
            rintro (e | e) <;> omega)
          have d0 : wy.cell? ⟨w5.heap.size, 0, none⟩ = some (ptr (φ k)) := cell_of_heap hQy rfl
          have d1 : wy.cell? ⟨w5.heap.size, 1, none⟩ = some (.string s2) := cell_of_heap hQy rfl
          unfold ptr at d0
          have Hlk := Lib.hid hlk
          have Hdk := Lib.hid hdk
          have Ho4 := Lib.hid ho4
          have Hm4 := Lib.hid hm4'
          have Hb4 := Lib.hid hb4
          have HT4 := Lib.hid hT4
          clear hlk hdk ho4 hm4' hb4 hT4 hQy h15 c0 c1
          go_wp2_with fail
          refine (put_any Hdk.out Hlk.out Hb4.out (Nat.le_trans (Nat.sub_le _ _) HLz.out)).mono ?_
          rintro e wx ⟨rfl, ⟨o5, ho5, hm5⟩, hb5, hT5⟩
          go_wp2
          go_ret
          obtain ⟨h1, h2⟩ := moved_rep HRz.out HOKz.out A3.out A4.out AF.out K3.out K4.out G5.out KF.out KL.out HLA.out Hlk.out HTi.out (links_pos HOKz.out AF.out) Ho4.out Hm4.out HT4.out ho5 hm5 hb5 hT5
          unfold OpPost
          rw [HMz.out]
          exact ⟨rfl, h1, HTz.out.trans h2 (fun _ _ h => h) (fun b hb h => HDz.out b h), fun b h => HDz.out b h⟩
    | some j =>
      by_cases hij : i = j
      · subst hij
        have HM := Lib.hid (rename_same HC.out HF.out HL2.out HNL.out HC2.out hr)
        clear hr
        have hsk : Hid ((n = false ∨ t.isDir i = false) ∨ n = true ∧ t.isDir i = true ∧ p = tt) := by
          cases n with
          | false => exact Or.inl (Or.inl rfl)
          | true => cases hd : t.isDir i with
            | false => exact Or.inl (Or.inr rfl)
            | true => exact Or.inr ⟨rfl, rfl, Classical.byContradiction fun hne => hloop ⟨hd, rfl, hne⟩⟩
        clear hloop
        rcases hsk.out with (rfl | hd) | ⟨rfl, hd, hpt⟩
        · clear hsk
          go_enter Tryd.func29, Tryd.ntmps29
          go_wp2_with fail
          refine (place_any HR.out HOK.out p hm hs).mono ?_
          rintro e w1 ⟨⟨v, s, rfl, hpl⟩, hb⟩
          obtain ⟨l, a, h1, h2, h3, h4, h5, rfl⟩ := hpl HC.out
          rw [HC.out]
          have HB1 := Lib.hid hb
          have HR1 := Lib.hid (HR.out.below hb)
          have H2 := Lib.hid h2
          have H3 := Lib.hid h3
          have H4 := Lib.hid h4
          clear hpl hb h1 h2 h3 h4 h5
          go_wp2_with fail
          refine (is_any (HR1.out.below ((Below.refl _ _).alloc (Nat.le_refl _) _)) H3.out H4.out s).mono ?_
          rintro e w2 ⟨rfl, hb2⟩
          have hb12 := below_next ((Below.refl w1.heap.size w1).alloc (Nat.le_refl _) _) hb2
          have HP2 : Hid (w2.heap[w1.heap.size]? = some (.cells #[ptr (φ a), .string s] 88 (0, 0))) := heap_below hb2 _ _ (heap_alloc_new w1 _)
          have HB2 := Lib.hid (below_next HB1.out hb12)
          have HR2 := Lib.hid (HR.out.below HB2.out)
          have hm2 := hm.below HB2.out
          rw [← H2.out, HF.out]
          clear hb2 hb12
          simp only [Option.map_some, ptrO, ptr]
          go_wp2_with fail
          refine (last_triple HL _ hm2 hs2).mono ?_
          rintro e w3 ⟨ad3, n3, rfl, _, hb⟩
          have HB3 := Lib.hid (below_next HB2.out hb)
          have HP3 := Lib.hid (heap_below hb _ _ HP2.out)
          have HR3 := Lib.hid (HR.out.below HB3.out)
          have hm3 := hm.below HB3.out
          clear hb
          go_wp2_with fail
          refine (under_pair HU _ hm3 hs hs2).mono ?_
          rintro e w4 ⟨rfl, hb⟩
          have HB4 := Lib.hid (below_next HB3.out hb)
          have HP4 := Lib.hid (heap_below hb _ _ HP3.out)
          have HR4 := Lib.hid (HR.out.below HB4.out)
          have hm4 := hm.below HB4.out
          clear hb
          go_wp2_with fail
          refine (place_any HR4.out HOK.out tt hm4 hs2).mono ?_
          rintro e w5 ⟨⟨v, s2, rfl, hpl⟩, hb⟩
          obtain ⟨l2, k, h1, h2, h3, h4, h5, rfl⟩ := hpl HC2.out
          rw [HC2.out]
          have HB5 := Lib.hid (below_next HB4.out hb)
          have HR5 := Lib.hid (HR.out.below HB5.out)
          have HP5 := Lib.hid (heap_below hb _ _ HP4.out)
          have G2 := Lib.hid h2
          have G3 := Lib.hid h3
          have G4 := Lib.hid h4
          have G5 := Lib.hid h5
          clear hpl hb h1 h2 h3 h4 h5
          go_wp2_with fail
          refine (is_any (HR5.out.below ((Below.refl _ _).alloc (Nat.le_refl _) _)) G3.out G4.out s2).mono ?_
          rintro e w6 ⟨rfl, hb2⟩
          have hb12 := below_next ((Below.refl w5.heap.size w5).alloc (Nat.le_refl _) _) hb2
          have HQ6 : Hid (w6.heap[w5.heap.size]? = some (.cells #[ptr (φ k), .string s2] 88 (0, 0))) := heap_below hb2 _ _ (heap_alloc_new w5 _)
          have HP6 := Lib.hid (heap_below hb12 _ _ HP5.out)
          have HB6 := Lib.hid (below_next HB5.out hb12)
          have HR6 := Lib.hid (HR.out.below HB6.out)
          have hm6 := hm.below HB6.out
          rw [← G2.out]
          clear hb2 hb12
          rw [HG.out]
          simp only [Option.map_some, ptrO, ptr]
          go_wp2
          go_ret
          exact OpPost.same HM.out HR.out HB6.out
        · have HD := Lib.hid hd
          clear hd hsk
          go_enter Tryd.func29, Tryd.ntmps29
          go_wp2_with fail
          refine (place_any HR.out HOK.out p hm hs).mono ?_
          rintro e w1 ⟨⟨v, s, rfl, hpl⟩, hb⟩
          obtain ⟨l, a, h1, h2, h3, h4, h5, rfl⟩ := hpl HC.out
          rw [HC.out]
          have HB1 := Lib.hid hb
          have HR1 := Lib.hid (HR.out.below hb)
          have H2 := Lib.hid h2
          have H3 := Lib.hid h3
          have H4 := Lib.hid h4
          clear hpl hb h1 h2 h3 h4 h5
          go_wp2_with fail
          refine (is_any (HR1.out.below ((Below.refl _ _).alloc (Nat.le_refl _) _)) H3.out H4.out s).mono ?_
          rintro e w2 ⟨rfl, hb2⟩
          have hb12 := below_next ((Below.refl w1.heap.size w1).alloc (Nat.le_refl _) _) hb2
          have HP2 : Hid (w2.heap[w1.heap.size]? = some (.cells #[ptr (φ a), .string s] 88 (0, 0))) := heap_below hb2 _ _ (heap_alloc_new w1 _)
          have HB2 := Lib.hid (below_next HB1.out hb12)
          have HR2 := Lib.hid (HR.out.below HB2.out)
          have hm2 := hm.below HB2.out
          rw [← H2.out, HF.out]
          clear hb2 hb12
          simp only [Option.map_some, ptrO, ptr]
          go_wp2_with fail
          refine (last_triple HL _ hm2 hs2).mono ?_
          rintro e w3 ⟨ad3, n3, rfl, _, hb⟩
          have HB3 := Lib.hid (below_next HB2.out hb)
          have HP3 := Lib.hid (heap_below hb _ _ HP2.out)
          have HR3 := Lib.hid (HR.out.below HB3.out)
          have hm3 := hm.below HB3.out
          clear hb
          go_wp2_with fail
          refine (under_pair HU _ hm3 hs hs2).mono ?_
          rintro e w4 ⟨rfl, hb⟩
          have HB4 := Lib.hid (below_next HB3.out hb)
          have HP4 := Lib.hid (heap_below hb _ _ HP3.out)
          have HR4 := Lib.hid (HR.out.below HB4.out)
          have hm4 := hm.below HB4.out
          clear hb
          have c2 := HR4.out.fileCell HOK.out HI.out HD.out
          cases n
          · go_wp2_with fail
            refine (place_any HR4.out HOK.out tt hm4 hs2).mono ?_
            rintro e w5 ⟨⟨v, s2, rfl, hpl⟩, hb⟩
            obtain ⟨l2, k, h1, h2, h3, h4, h5, rfl⟩ := hpl HC2.out
            rw [HC2.out]
            have HB5 := Lib.hid (below_next HB4.out hb)
            have HR5 := Lib.hid (HR.out.below HB5.out)
            have HP5 := Lib.hid (heap_below hb _ _ HP4.out)
            have G2 := Lib.hid h2
            have G3 := Lib.hid h3
            have G4 := Lib.hid h4
            have G5 := Lib.hid h5
            clear hpl hb h1 h2 h3 h4 h5
            go_wp2_with fail
            refine (is_any (HR5.out.below ((Below.refl _ _).alloc (Nat.le_refl _) _)) G3.out G4.out s2).mono ?_
            rintro e w6 ⟨rfl, hb2⟩
            have hb12 := below_next ((Below.refl w5.heap.size w5).alloc (Nat.le_refl _) _) hb2
            have HQ6 : Hid (w6.heap[w5.heap.size]? = some (.cells #[ptr (φ k), .string s2] 88 (0, 0))) := heap_below hb2 _ _ (heap_alloc_new w5 _)
            have HP6 := Lib.hid (heap_below hb12 _ _ HP5.out)
            have HB6 := Lib.hid (below_next HB5.out hb12)
            have HR6 := Lib.hid (HR.out.below HB6.out)
            have hm6 := hm.below HB6.out
            rw [← G2.out]
            clear hb2 hb12
            rw [HG.out]
            simp only [Option.map_some, ptrO, ptr]
            go_wp2
            go_ret
            exact OpPost.same HM.out HR.out HB6.out
          · go_wp2_with fail
            refine (place_any HR4.out HOK.out tt hm4 hs2).mono ?_
            rintro e w5 ⟨⟨v, s2, rfl, hpl⟩, hb⟩
            obtain ⟨l2, k, h1, h2, h3, h4, h5, rfl⟩ := hpl HC2.out
            rw [HC2.out]
            have HB5 := Lib.hid (below_next HB4.out hb)
            have HR5 := Lib.hid (HR.out.below HB5.out)
            have HP5 := Lib.hid (heap_below hb _ _ HP4.out)
            have G2 := Lib.hid h2
            have G3 := Lib.hid h3
            have G4 := Lib.hid h4
            have G5 := Lib.hid h5
            clear hpl hb h1 h2 h3 h4 h5
            go_wp2_with fail
            refine (is_any (HR5.out.below ((Below.refl _ _).alloc (Nat.le_refl _) _)) G3.out G4.out s2).mono ?_
            rintro e w6 ⟨rfl, hb2⟩
            have hb12 := below_next ((Below.refl w5.heap.size w5).alloc (Nat.le_refl _) _) hb2
            have HQ6 : Hid (w6.heap[w5.heap.size]? = some (.cells #[ptr (φ k), .string s2] 88 (0, 0))) := heap_below hb2 _ _ (heap_alloc_new w5 _)
            have HP6 := Lib.hid (heap_below hb12 _ _ HP5.out)
            have HB6 := Lib.hid (below_next HB5.out hb12)
            have HR6 := Lib.hid (HR.out.below HB6.out)
            have hm6 := hm.below HB6.out
            rw [← G2.out]
            clear hb2 hb12
            rw [HG.out]
            simp only [Option.map_some, ptrO, ptr]
            go_wp2
            go_ret
            exact OpPost.same HM.out HR.out HB6.out
        · have HD := Lib.hid hd
          have q' : (p.toList == tt.toList) = true := (text_eq p tt).trans (decide_eq_true hpt)
          clear hd hsk hpt
          go_enter Tryd.func29, Tryd.ntmps29
          go_wp2_with fail
          refine (place_any HR.out HOK.out p hm hs).mono ?_
          rintro e w1 ⟨⟨v, s, rfl, hpl⟩, hb⟩
          obtain ⟨l, a, h1, h2, h3, h4, h5, rfl⟩ := hpl HC.out
          rw [HC.out]
          have HB1 := Lib.hid hb
          have HR1 := Lib.hid (HR.out.below hb)
          have H2 := Lib.hid h2
          have H3 := Lib.hid h3
          have H4 := Lib.hid h4
          clear hpl hb h1 h2 h3 h4 h5
          go_wp2_with fail
          refine (is_any (HR1.out.below ((Below.refl _ _).alloc (Nat.le_refl _) _)) H3.out H4.out s).mono ?_
          rintro e w2 ⟨rfl, hb2⟩
          have hb12 := below_next ((Below.refl w1.heap.size w1).alloc (Nat.le_refl _) _) hb2
          have HP2 : Hid (w2.heap[w1.heap.size]? = some (.cells #[ptr (φ a), .string s] 88 (0, 0))) := heap_below hb2 _ _ (heap_alloc_new w1 _)
          have HB2 := Lib.hid (below_next HB1.out hb12)
          have HR2 := Lib.hid (HR.out.below HB2.out)
          have hm2 := hm.below HB2.out
          rw [← H2.out, HF.out]
          clear hb2 hb12
          simp only [Option.map_some, ptrO, ptr]
          go_wp2_with fail
          refine (last_triple HL _ hm2 hs2).mono ?_
          rintro e w3 ⟨ad3, n3, rfl, _, hb⟩
          have HB3 := Lib.hid (below_next HB2.out hb)
          have HP3 := Lib.hid (heap_below hb _ _ HP2.out)
          have HR3 := Lib.hid (HR.out.below HB3.out)
          have hm3 := hm.below HB3.out
          clear hb
          go_wp2_with fail
          refine (under_pair HU _ hm3 hs hs2).mono ?_
          rintro e w4 ⟨rfl, hb⟩
          have HB4 := Lib.hid (below_next HB3.out hb)
          have HP4 := Lib.hid (heap_below hb _ _ HP3.out)
          have HR4 := Lib.hid (HR.out.below HB4.out)
          have hm4 := hm.below HB4.out
          clear hb
          have c2 := HR4.out.dirCell HI.out HD.out
          go_wp2_with fail
          refine (place_any HR4.out HOK.out tt hm4 hs2).mono ?_
          rintro e w5 ⟨⟨v, s2, rfl, hpl⟩, hb⟩
          obtain ⟨l2, k, h1, h2, h3, h4, h5, rfl⟩ := hpl HC2.out
          rw [HC2.out]
          have HB5 := Lib.hid (below_next HB4.out hb)
          have HR5 := Lib.hid (HR.out.below HB5.out)
          have HP5 := Lib.hid (heap_below hb _ _ HP4.out)
          have G2 := Lib.hid h2
          have G3 := Lib.hid h3
          have G4 := Lib.hid h4
          have G5 := Lib.hid h5
          clear hpl hb h1 h2 h3 h4 h5
          go_wp2_with fail
          refine (is_any (HR5.out.below ((Below.refl _ _).alloc (Nat.le_refl _) _)) G3.out G4.out s2).mono ?_
          rintro e w6 ⟨rfl, hb2⟩
          have hb12 := below_next ((Below.refl w5.heap.size w5).alloc (Nat.le_refl _) _) hb2
          have HQ6 : Hid (w6.heap[w5.heap.size]? = some (.cells #[ptr (φ k), .string s2] 88 (0, 0))) := heap_below hb2 _ _ (heap_alloc_new w5 _)
          have HP6 := Lib.hid (heap_below hb12 _ _ HP5.out)
          have HB6 := Lib.hid (below_next HB5.out hb12)
          have HR6 := Lib.hid (HR.out.below HB6.out)
          have hm6 := hm.below HB6.out
          rw [← G2.out]
          clear hb2 hb12
          rw [HG.out]
          simp only [Option.map_some, ptrO, ptr]
          go_wp2
          go_ret
          exact OpPost.same HM.out HR.out HB6.out
      · have HJ := Lib.hid (find_idOf HOK.out hr)
        have HIJ := Lib.hid hij
        have hMo := rename_onto HC.out HF.out HL2.out HNL.out HC2.out hr hij
        have hne : p ≠ tt := fun e => hij (by rw [← e, HF.out] at hr; exact Option.some.inj hr)
        have hsk : Hid (n = false ∨ t.isDir i = false) := by
          cases n with
          | false => exact Or.inl rfl
          | true => exact Or.inr (by cases hd : t.isDir i with | false => rfl | true => exact absurd ⟨hd, rfl, hne⟩ hloop)
        have HNP : Hid (t.isDir i = true → ¬ full p <+: full tt) := fun h1 h2 => HNL.out ⟨h1, h2, hne⟩
        obtain ⟨c, hc⟩ : ∃ c, t.ontoC i (full tt) = c := ⟨_, rfl⟩
        have HOC := Lib.hid hc
        rw [hc] at hMo
        clear hr hloop hne hc
        by_cases h0 : c = 0
        rotate_left
        · rw [if_neg h0] at hMo
          have hc0 : (c == 0) = false := beq_eq_false_iff_ne.2 h0
          have HM := Lib.hid hMo
          clear hMo h0
          rcases hsk.out with rfl | hd
          · clear hsk
            go_enter Tryd.func29, Tryd.ntmps29
            go_wp2_with fail
            refine (place_any HR.out HOK.out p hm hs).mono ?_
            rintro e w1 ⟨⟨v, s, rfl, hpl⟩, hb⟩
            obtain ⟨l, a, h1, h2, h3, h4, h5, rfl⟩ := hpl HC.out
            rw [HC.out]
            have HB1 := Lib.hid hb
            have HR1 := Lib.hid (HR.out.below hb)
            have H2 := Lib.hid h2
            have H3 := Lib.hid h3
            have H4 := Lib.hid h4
            clear hpl hb h1 h2 h3 h4 h5
            go_wp2_with fail
            refine (is_any (HR1.out.below ((Below.refl _ _).alloc (Nat.le_refl _) _)) H3.out H4.out s).mono ?_
            rintro e w2 ⟨rfl, hb2⟩
            have hb12 := below_next ((Below.refl w1.heap.size w1).alloc (Nat.le_refl _) _) hb2
            have HP2 : Hid (w2.heap[w1.heap.size]? = some (.cells #[ptr (φ a), .string s] 88 (0, 0))) := heap_below hb2 _ _ (heap_alloc_new w1 _)
            have HB2 := Lib.hid (below_next HB1.out hb12)
            have HR2 := Lib.hid (HR.out.below HB2.out)
            have hm2 := hm.below HB2.out
            rw [← H2.out, HF.out]
            clear hb2 hb12
            simp only [Option.map_some, ptrO, ptr]
            go_wp2_with fail
            refine (last_triple HL _ hm2 hs2).mono ?_
            rintro e w3 ⟨ad3, n3, rfl, _, hb⟩
            have HB3 := Lib.hid (below_next HB2.out hb)
            have HP3 := Lib.hid (heap_below hb _ _ HP2.out)
            have HR3 := Lib.hid (HR.out.below HB3.out)
            have hm3 := hm.below HB3.out
            clear hb
            go_wp2_with fail
            refine (under_pair HU _ hm3 hs hs2).mono ?_
            rintro e w4 ⟨rfl, hb⟩
            have HB4 := Lib.hid (below_next HB3.out hb)
            have HP4 := Lib.hid (heap_below hb _ _ HP3.out)
            have HR4 := Lib.hid (HR.out.below HB4.out)
            have hm4 := hm.below HB4.out
            clear hb
            go_wp2_with fail
            refine (place_any HR4.out HOK.out tt hm4 hs2).mono ?_
            rintro e w5 ⟨⟨v, s2, rfl, hpl⟩, hb⟩
            obtain ⟨l2, k, h1, h2, h3, h4, h5, rfl⟩ := hpl HC2.out
            rw [HC2.out]
            have HB5 := Lib.hid (below_next HB4.out hb)
            have HR5 := Lib.hid (HR.out.below HB5.out)
            have HP5 := Lib.hid (heap_below hb _ _ HP4.out)
            have G2 := Lib.hid h2
            have G3 := Lib.hid h3
            have G4 := Lib.hid h4
            have G5 := Lib.hid h5
            clear hpl hb h1 h2 h3 h4 h5
            go_wp2_with fail
            refine (is_any (HR5.out.below ((Below.refl _ _).alloc (Nat.le_refl _) _)) G3.out G4.out s2).mono ?_
            rintro e w6 ⟨rfl, hb2⟩
            have hb12 := below_next ((Below.refl w5.heap.size w5).alloc (Nat.le_refl _) _) hb2
            have HQ6 : Hid (w6.heap[w5.heap.size]? = some (.cells #[ptr (φ k), .string s2] 88 (0, 0))) := heap_below hb2 _ _ (heap_alloc_new w5 _)
            have HP6 := Lib.hid (heap_below hb12 _ _ HP5.out)
            have HB6 := Lib.hid (below_next HB5.out hb12)
            have HR6 := Lib.hid (HR.out.below HB6.out)
            have hm6 := hm.below HB6.out
            rw [← G2.out]
            clear hb2 hb12
            rw [HG.out]
            simp only [Option.map_some, ptrO, ptr]
            obtain ⟨_, _, hti6⟩ := HR6.out.thing HOK.out (has_idOf HOK.out HI.out)
            obtain ⟨_, _, htj6⟩ := HR6.out.thing HOK.out (has_idOf HOK.out HJ.out)
            have p3 := eql_other htj6 hti6 (fun e => HIJ.out (HR6.out.inj _ _ (has_idOf HOK.out HI.out) (has_idOf HOK.out HJ.out) e.symm))
            clear hti6 htj6
            go_wp2_with fail
            have hon := onto_any HR6.out HOK.out HI.out (full tt) HK.out
            rw [HG.out] at hon
            refine hon.mono ?_
            rintro e w7 ⟨rfl, hb⟩
            rw [HOC.out]
            have HB7 := Lib.hid (below_next HB6.out hb)
            clear hb p3
            go_wp2
            go_ret
            exact OpPost.same HM.out HR.out HB7.out
          · have HD := Lib.hid hd
            clear hd hsk
            go_enter Tryd.func29, Tryd.ntmps29
            go_wp2_with fail
            refine (place_any HR.out HOK.out p hm hs).mono ?_
            rintro e w1 ⟨⟨v, s, rfl, hpl⟩, hb⟩
            obtain ⟨l, a, h1, h2, h3, h4, h5, rfl⟩ := hpl HC.out
            rw [HC.out]
            have HB1 := Lib.hid hb
            have HR1 := Lib.hid (HR.out.below hb)
            have H2 := Lib.hid h2
            have H3 := Lib.hid h3
            have H4 := Lib.hid h4
            clear hpl hb h1 h2 h3 h4 h5
            go_wp2_with fail
            refine (is_any (HR1.out.below ((Below.refl _ _).alloc (Nat.le_refl _) _)) H3.out H4.out s).mono ?_
            rintro e w2 ⟨rfl, hb2⟩
            have hb12 := below_next ((Below.refl w1.heap.size w1).alloc (Nat.le_refl _) _) hb2
            have HP2 : Hid (w2.heap[w1.heap.size]? = some (.cells #[ptr (φ a), .string s] 88 (0, 0))) := heap_below hb2 _ _ (heap_alloc_new w1 _)
            have HB2 := Lib.hid (below_next HB1.out hb12)
            have HR2 := Lib.hid (HR.out.below HB2.out)
            have hm2 := hm.below HB2.out
            rw [← H2.out, HF.out]
            clear hb2 hb12
            simp only [Option.map_some, ptrO, ptr]
            go_wp2_with fail
            refine (last_triple HL _ hm2 hs2).mono ?_
            rintro e w3 ⟨ad3, n3, rfl, _, hb⟩
            have HB3 := Lib.hid (below_next HB2.out hb)
            have HP3 := Lib.hid (heap_below hb _ _ HP2.out)
            have HR3 := Lib.hid (HR.out.below HB3.out)
            have hm3 := hm.below HB3.out
            clear hb
            go_wp2_with fail
            refine (under_pair HU _ hm3 hs hs2).mono ?_
            rintro e w4 ⟨rfl, hb⟩
            have HB4 := Lib.hid (below_next HB3.out hb)
            have HP4 := Lib.hid (heap_below hb _ _ HP3.out)
            have HR4 := Lib.hid (HR.out.below HB4.out)
            have hm4 := hm.below HB4.out
            clear hb
            have c2 := HR4.out.fileCell HOK.out HI.out HD.out
            cases n
            · go_wp2_with fail
              refine (place_any HR4.out HOK.out tt hm4 hs2).mono ?_
              rintro e w5 ⟨⟨v, s2, rfl, hpl⟩, hb⟩
              obtain ⟨l2, k, h1, h2, h3, h4, h5, rfl⟩ := hpl HC2.out
              rw [HC2.out]
              have HB5 := Lib.hid (below_next HB4.out hb)
              have HR5 := Lib.hid (HR.out.below HB5.out)
              have HP5 := Lib.hid (heap_below hb _ _ HP4.out)
              have G2 := Lib.hid h2
              have G3 := Lib.hid h3
              have G4 := Lib.hid h4
              have G5 := Lib.hid h5
              clear hpl hb h1 h2 h3 h4 h5
              go_wp2_with fail
              refine (is_any (HR5.out.below ((Below.refl _ _).alloc (Nat.le_refl _) _)) G3.out G4.out s2).mono ?_
              rintro e w6 ⟨rfl, hb2⟩
              have hb12 := below_next ((Below.refl w5.heap.size w5).alloc (Nat.le_refl _) _) hb2
              have HQ6 : Hid (w6.heap[w5.heap.size]? = some (.cells #[ptr (φ k), .string s2] 88 (0, 0))) := heap_below hb2 _ _ (heap_alloc_new w5 _)
              have HP6 := Lib.hid (heap_below hb12 _ _ HP5.out)
              have HB6 := Lib.hid (below_next HB5.out hb12)
              have HR6 := Lib.hid (HR.out.below HB6.out)
              have hm6 := hm.below HB6.out
              rw [← G2.out]
              clear hb2 hb12
              rw [HG.out]
              simp only [Option.map_some, ptrO, ptr]
              obtain ⟨_, _, hti6⟩ := HR6.out.thing HOK.out (has_idOf HOK.out HI.out)
              obtain ⟨_, _, htj6⟩ := HR6.out.thing HOK.out (has_idOf HOK.out HJ.out)
              have p3 := eql_other htj6 hti6 (fun e => HIJ.out (HR6.out.inj _ _ (has_idOf HOK.out HI.out) (has_idOf HOK.out HJ.out) e.symm))
              clear hti6 htj6
              go_wp2_with fail
              have hon := onto_any HR6.out HOK.out HI.out (full tt) HK.out
              rw [HG.out] at hon
              refine hon.mono ?_
              rintro e w7 ⟨rfl, hb⟩
              rw [HOC.out]
              have HB7 := Lib.hid (below_next HB6.out hb)
              clear hb p3
              go_wp2
              go_ret
              exact OpPost.same HM.out HR.out HB7.out
            · go_wp2_with fail
              refine (place_any HR4.out HOK.out tt hm4 hs2).mono ?_
              rintro e w5 ⟨⟨v, s2, rfl, hpl⟩, hb⟩
              obtain ⟨l2, k, h1, h2, h3, h4, h5, rfl⟩ := hpl HC2.out
              rw [HC2.out]
              have HB5 := Lib.hid (below_next HB4.out hb)
              have HR5 := Lib.hid (HR.out.below HB5.out)
              have HP5 := Lib.hid (heap_below hb _ _ HP4.out)
              have G2 := Lib.hid h2
              have G3 := Lib.hid h3
              have G4 := Lib.hid h4
              have G5 := Lib.hid h5
              clear hpl hb h1 h2 h3 h4 h5
              go_wp2_with fail
              refine (is_any (HR5.out.below ((Below.refl _ _).alloc (Nat.le_refl _) _)) G3.out G4.out s2).mono ?_
              rintro e w6 ⟨rfl, hb2⟩
              have hb12 := below_next ((Below.refl w5.heap.size w5).alloc (Nat.le_refl _) _) hb2
              have HQ6 : Hid (w6.heap[w5.heap.size]? = some (.cells #[ptr (φ k), .string s2] 88 (0, 0))) := heap_below hb2 _ _ (heap_alloc_new w5 _)
              have HP6 := Lib.hid (heap_below hb12 _ _ HP5.out)
              have HB6 := Lib.hid (below_next HB5.out hb12)
              have HR6 := Lib.hid (HR.out.below HB6.out)
              have hm6 := hm.below HB6.out
              rw [← G2.out]
              clear hb2 hb12
              rw [HG.out]
              simp only [Option.map_some, ptrO, ptr]
              obtain ⟨_, _, hti6⟩ := HR6.out.thing HOK.out (has_idOf HOK.out HI.out)
              obtain ⟨_, _, htj6⟩ := HR6.out.thing HOK.out (has_idOf HOK.out HJ.out)
              have p3 := eql_other htj6 hti6 (fun e => HIJ.out (HR6.out.inj _ _ (has_idOf HOK.out HI.out) (has_idOf HOK.out HJ.out) e.symm))
              clear hti6 htj6
              go_wp2_with fail
              have hon := onto_any HR6.out HOK.out HI.out (full tt) HK.out
              rw [HG.out] at hon
              refine hon.mono ?_
              rintro e w7 ⟨rfl, hb⟩
              rw [HOC.out]
              have HB7 := Lib.hid (below_next HB6.out hb)
              clear hb p3
              go_wp2
              go_ret
              exact OpPost.same HM.out HR.out HB7.out
        subst h0
        rw [if_pos rfl] at hMo
        have HM := Lib.hid hMo
        clear hMo
        rcases hsk.out with rfl | hd
        · clear hsk
          go_enter Tryd.func29, Tryd.ntmps29
          go_wp2_with fail
          refine (place_any HR.out HOK.out p hm hs).mono ?_
          rintro e w1 ⟨⟨v, s, rfl, hpl⟩, hb⟩
          obtain ⟨l, a, h1, h2, h3, h4, h5, rfl⟩ := hpl HC.out
          rw [HC.out]
          have HB1 := Lib.hid hb
          have HR1 := Lib.hid (HR.out.below hb)
          have H2 := Lib.hid h2
          have H3 := Lib.hid h3
          have H4 := Lib.hid h4
          clear hpl hb h1 h2 h3 h4 h5
          go_wp2_with fail
          refine (is_any (HR1.out.below ((Below.refl _ _).alloc (Nat.le_refl _) _)) H3.out H4.out s).mono ?_
          rintro e w2 ⟨rfl, hb2⟩
          have hb12 := below_next ((Below.refl w1.heap.size w1).alloc (Nat.le_refl _) _) hb2
          have HP2 : Hid (w2.heap[w1.heap.size]? = some (.cells #[ptr (φ a), .string s] 88 (0, 0))) := heap_below hb2 _ _ (heap_alloc_new w1 _)
          have HB2 := Lib.hid (below_next HB1.out hb12)
          have HR2 := Lib.hid (HR.out.below HB2.out)
          have hm2 := hm.below HB2.out
          rw [← H2.out, HF.out]
          clear hb2 hb12
          simp only [Option.map_some, ptrO, ptr]
          go_wp2_with fail
          refine (last_triple HL _ hm2 hs2).mono ?_
          rintro e w3 ⟨ad3, n3, rfl, _, hb⟩
          have HB3 := Lib.hid (below_next HB2.out hb)
          have HP3 := Lib.hid (heap_below hb _ _ HP2.out)
          have HR3 := Lib.hid (HR.out.below HB3.out)
          have hm3 := hm.below HB3.out
          clear hb
          go_wp2_with fail
          refine (under_pair HU _ hm3 hs hs2).mono ?_
          rintro e w4 ⟨rfl, hb⟩
          have HB4 := Lib.hid (below_next HB3.out hb)
          have HP4 := Lib.hid (heap_below hb _ _ HP3.out)
          have HR4 := Lib.hid (HR.out.below HB4.out)
          have hm4 := hm.below HB4.out
          clear hb
          go_wp2_with fail
          refine (place_any HR4.out HOK.out tt hm4 hs2).mono ?_
          rintro e w5 ⟨⟨v, s2, rfl, hpl⟩, hb⟩
          obtain ⟨l2, k, h1, h2, h3, h4, h5, rfl⟩ := hpl HC2.out
          rw [HC2.out]
          have HB5 := Lib.hid (below_next HB4.out hb)
          have HR5 := Lib.hid (HR.out.below HB5.out)
          have HP5 := Lib.hid (heap_below hb _ _ HP4.out)
          have G2 := Lib.hid h2
          have G3 := Lib.hid h3
          have G4 := Lib.hid h4
          have G5 := Lib.hid h5
          clear hpl hb h1 h2 h3 h4 h5
          go_wp2_with fail
          refine (is_any (HR5.out.below ((Below.refl _ _).alloc (Nat.le_refl _) _)) G3.out G4.out s2).mono ?_
          rintro e w6 ⟨rfl, hb2⟩
          have hb12 := below_next ((Below.refl w5.heap.size w5).alloc (Nat.le_refl _) _) hb2
          have HQ6 : Hid (w6.heap[w5.heap.size]? = some (.cells #[ptr (φ k), .string s2] 88 (0, 0))) := heap_below hb2 _ _ (heap_alloc_new w5 _)
          have HP6 := Lib.hid (heap_below hb12 _ _ HP5.out)
          have HB6 := Lib.hid (below_next HB5.out hb12)
          have HR6 := Lib.hid (HR.out.below HB6.out)
          have hm6 := hm.below HB6.out
          rw [← G2.out]
          clear hb2 hb12
          rw [HG.out]
          simp only [Option.map_some, ptrO, ptr]
          obtain ⟨_, _, hti6⟩ := HR6.out.thing HOK.out (has_idOf HOK.out HI.out)
          obtain ⟨_, _, htj6⟩ := HR6.out.thing HOK.out (has_idOf HOK.out HJ.out)
          have p3 := eql_other htj6 hti6 (fun e => HIJ.out (HR6.out.inj _ _ (has_idOf HOK.out HI.out) (has_idOf HOK.out HJ.out) e.symm))
          clear hti6 htj6
          go_wp2_with fail
          have hon := onto_any HR6.out HOK.out HI.out (full tt) HK.out
          rw [HG.out] at hon
          refine hon.mono ?_
          rintro e w7 ⟨rfl, hb⟩
          rw [HOC.out]
          have HB7 := Lib.hid (below_next HB6.out hb)
          have HR7 := Lib.hid (HR.out.below HB7.out)
          have HP7 := Lib.hid (heap_below hb _ _ HP6.out)
          have HQ7 := Lib.hid (heap_below hb _ _ HQ6.out)
          clear hb p3
          have e0 : w7.cell? ⟨w5.heap.size, 0, none⟩ = some (ptr (φ k)) := cell_of_heap HQ7.out rfl
          have e1 : w7.cell? ⟨w5.heap.size, 1, none⟩ = some (.string s2) := cell_of_heap HQ7.out rfl
          unfold ptr at e0
          have KG : Hid (t.find (l2 ++ [s2]) = some j) := by show t.find (l2 ++ [s2]) = some j; rw [← G2.out]; exact HG.out
          obtain ⟨hdk, lk, hlk, _⟩ := HR7.out.dir k l2 G3.out G4.out
          have HDK := Lib.hid hdk
          have HLK := Lib.hid hlk
          have hgetk : Hid (getM lk s2 = some (φ j)) := by
            show getM lk s2 = some (φ j)
            rw [HR7.out.entries G3.out G4.out hlk, KG.out]; rfl
          obtain ⟨dj, mj, htj⟩ := HR7.out.thing HOK.out (has_idOf HOK.out HJ.out)
          have HTj := Lib.hid htj
          clear hdk hlk htj
          go_wp2_with fail
          refine (away_any HDK.out HLK.out hgetk.out HTj.out (HLk.out j) (links_pos HOK.out KG.out)).mono ?_
          rintro e wz ⟨rfl, ⟨o3, ho3, hm3'⟩, hb3, hT3⟩
          have hbelow : ∀ s k, (l2 ++ [s2] ++ [s], k) ∉ t.names := by rw [← G2.out]; exact onto_below HOK.out HG.out HOC.out
          have hHz := HR7.out.forget HOK.out G3.out G4.out KG.out hbelow HLK.out (fun b o ho h1 h2 => hT3.heap ho (fun h => h.elim h1 h2)) HTj.out hb3 hm3' ho3
          have HRz := Lib.hid hHz
          have HOKz := Lib.hid (HOK.out.forget KG.out hbelow)
          have hneq : l ++ [s] ≠ l2 ++ [s2] := by
            rw [← H2.out, ← G2.out]
            intro e
            have h1 := HF.out
            rw [e, HG.out] at h1
            exact HIJ.out (Option.some.inj h1).symm
          have hat := forget_at HOK.out KG.out hbelow H3.out (by rw [← H2.out]; exact HF.out) hneq
          have A3 := Lib.hid hat.1
          have AF := Lib.hid hat.2
          have hlne : l ≠ l2 ++ [s2] := fun e => hbelow s i (by rw [← e, ← H2.out]; exact (find_mem HOK.out).1 HF.out)
          have A4 : Hid ((t.forget (l2 ++ [s2])).isDir a = true) := by
            show (t.forget (l2 ++ [s2])).isDir a = true
            rw [isDir_forget HOK.out KG.out hbelow H3.out hlne]; exact H4.out
          have K3 := Lib.hid (forget_up HOK.out KG.out G3.out)
          have K4 : Hid ((t.forget (l2 ++ [s2])).isDir k = true) := by
            show (t.forget (l2 ++ [s2])).isDir k = true
            rw [isDir_forget HOK.out KG.out hbelow G3.out (fun e => by have := congrArg List.length e; simp at this)]; exact G4.out
          have KF : Hid ((t.forget (l2 ++ [s2])).find (l2 ++ [s2]) = none) := by
            show (t.forget (l2 ++ [s2])).find (l2 ++ [s2]) = none
            rw [find_forget HOK.out KG.out, if_pos rfl]
          have hdi : (t.forget (l2 ++ [s2])).isDir i = t.isDir i := isDir_forget HOK.out KG.out hbelow (by rw [← H2.out]; exact HI.out) hneq
          have KL : Hid ((t.forget (l2 ++ [s2])).isDir i = true → ¬ l ++ [s] <+: l2 ++ [s2]) := by
            show (t.forget (l2 ++ [s2])).isDir i = true → ¬ l ++ [s] <+: l2 ++ [s2]
            rw [hdi, ← H2.out, ← G2.out]; exact HNP.out
          have HLz : Hid ((t.forget (l2 ++ [s2])).links i ≤ 1000000) := by
            show (t.forget (l2 ++ [s2])).links i ≤ 1000000
            rw [forget_links HOK.out KG.out]
            have := HLk.out i
            omega
          have BND : Hid (φ i < w.heap.size ∧ μ a < w.heap.size) := ⟨HR.out.lt_thing HOK.out (has_idOf HOK.out HI.out), HR.out.lt_map HOK.out (has_idOf HOK.out H3.out) H4.out⟩
          have hbk : φ j < w.heap.size ∧ μ k < w.heap.size := ⟨HR.out.lt_thing HOK.out (has_idOf HOK.out HJ.out), HR.out.lt_map HOK.out (has_idOf HOK.out G3.out) G4.out⟩
          have h15 : w.heap.size ≤ w5.heap.size := HB5.out.size
          have h11 : w.heap.size ≤ w1.heap.size := HB1.out.size
          have HPz : Hid (wz.heap[w1.heap.size]? = some (.cells #[ptr (φ a), .string s] 88 (0, 0))) := hT3.heap HP7.out (by rintro (e | e) <;> omega)
          have HQz : Hid (wz.heap[w5.heap.size]? = some (.cells #[ptr (φ k), .string s2] 88 (0, 0))) := hT3.heap HQ7.out (by rintro (e | e) <;> omega)
          have HTz : Hid (Turn (Rep.dom B t φ μ) w wz) := (Turn.of_below HB7.out).trans hT3 (K1 := Rep.dom B t φ μ) (fun _ _ h => h) (fun b _ h => by
            rcases h with rfl | rfl
            · exact dom_map (has_idOf HOK.out G3.out) G4.out
            · exact dom_thing (has_idOf HOK.out HJ.out))
          have HDz : Hid (∀ b, Rep.dom B (t.forget (l2 ++ [s2])) φ μ b → Rep.dom B t φ μ b) := fun b h => dom_forget HOK.out KG.out hbelow h
          have HMz : Hid (t.rename p tt = ((t.forget (l2 ++ [s2])).move ((t.forget (l2 ++ [s2])).isDir i) (l ++ [s]) (l2 ++ [s2]), 0)) := by
            show t.rename p tt = ((t.forget (l2 ++ [s2])).move ((t.forget (l2 ++ [s2])).isDir i) (l ++ [s]) (l2 ++ [s2]), 0)
            rw [hdi, ← H2.out, ← G2.out]; exact HM.out
          clear hHz hat hneq hlne hdi hbk h15 h11 hbelow ho3 hm3' hb3 hT3 e0 e1
          have c0 : wz.cell? ⟨w1.heap.size, 0, none⟩ = some (ptr (φ a)) := cell_of_heap HPz.out rfl
          have c1 : wz.cell? ⟨w1.heap.size, 1, none⟩ = some (.string s) := cell_of_heap HPz.out rfl
          unfold ptr at c0
          obtain ⟨hda, la, hla, _⟩ := HRz.out.dir a l A3.out A4.out
          have HDA := Lib.hid hda
          have HLA := Lib.hid hla
          have hget : Hid (getM la s = some (φ i)) := by
            show getM la s = some (φ i)
            rw [HRz.out.entries A3.out A4.out hla, AF.out]; rfl
          obtain ⟨di, mi, hti⟩ := HRz.out.thing HOKz.out (has_idOf HOKz.out (find_idOf HOKz.out AF.out))
          have HTi := Lib.hid hti
          clear hda hla hti
          go_wp2_with fail
          refine (away_any HDA.out HLA.out hget.out HTi.out HLz.out (links_pos HOKz.out AF.out)).mono ?_
          rintro e wy ⟨rfl, ⟨o4, ho4, hm4'⟩, hb4, hT4⟩
          obtain ⟨⟨lk, hlk⟩, dd, dn, hdk⟩ := put_ready HRz.out HOKz.out A3.out A4.out AF.out K3.out K4.out KL.out ho4 hm4' hT4
          have h15 : w.heap.size ≤ w5.heap.size := HB5.out.size
          have hQy : wy.heap[w5.heap.size]? = some (.cells #[ptr (φ k), .string s2] 88 (0, 0)) := hT4.heap HQz.out (by
            have := BND.out
            rintro (e | e) <;> omega)
          have d0 : wy.cell? ⟨w5.heap.size, 0, none⟩ = some (ptr (φ k)) := cell_of_heap hQy rfl
          have d1 : wy.cell? ⟨w5.heap.size, 1, none⟩ = some (.string s2) := cell_of_heap hQy rfl
          unfold ptr at d0
          have Hlk := Lib.hid hlk
          have Hdk := Lib.hid hdk
          have Ho4 := Lib.hid ho4
          have Hm4 := Lib.hid hm4'
          have Hb4 := Lib.hid hb4
          have HT4 := Lib.hid hT4
          clear hlk hdk ho4 hm4' hb4 hT4 hQy h15 c0 c1
          go_wp2_with fail
          refine (put_any Hdk.out Hlk.out Hb4.out (Nat.le_trans (Nat.sub_le _ _) HLz.out)).mono ?_
          rintro e wx ⟨rfl, ⟨o5, ho5, hm5⟩, hb5, hT5⟩
          go_wp2
          go_ret
          obtain ⟨h1, h2⟩ := moved_rep HRz.out HOKz.out A3.out A4.out AF.out K3.out K4.out G5.out KF.out KL.out HLA.out Hlk.out HTi.out (links_pos HOKz.out AF.out) Ho4.out Hm4.out HT4.out ho5 hm5 hb5 hT5
          unfold OpPost
          rw [HMz.out]
          exact ⟨rfl, h1, HTz.out.trans h2 (fun _ _ h => h) (fun b hb h => HDz.out b h), fun b h => HDz.out b h⟩
        · have HD := Lib.hid hd
          clear hd hsk
          go_enter Tryd.func29, Tryd.ntmps29
          go_wp2_with fail
          refine (place_any HR.out HOK.out p hm hs).mono ?_
          rintro e w1 ⟨⟨v, s, rfl, hpl⟩, hb⟩
          obtain ⟨l, a, h1, h2, h3, h4, h5, rfl⟩ := hpl HC.out
          rw [HC.out]
          have HB1 := Lib.hid hb
          have HR1 := Lib.hid (HR.out.below hb)
          have H2 := Lib.hid h2
          have H3 := Lib.hid h3
          have H4 := Lib.hid h4
          clear hpl hb h1 h2 h3 h4 h5
          go_wp2_with fail
          refine (is_any (HR1.out.below ((Below.refl _ _).alloc (Nat.le_refl _) _)) H3.out H4.out s).mono ?_
          rintro e w2 ⟨rfl, hb2⟩
          have hb12 := below_next ((Below.refl w1.heap.size w1).alloc (Nat.le_refl _) _) hb2
          have HP2 : Hid (w2.heap[w1.heap.size]? = some (.cells #[ptr (φ a), .string s] 88 (0, 0))) := heap_below hb2 _ _ (heap_alloc_new w1 _)
          have HB2 := Lib.hid (below_next HB1.out hb12)
          have HR2 := Lib.hid (HR.out.below HB2.out)
          have hm2 := hm.below HB2.out
          rw [← H2.out, HF.out]
          clear hb2 hb12
          simp only [Option.map_some, ptrO, ptr]
          go_wp2_with fail
          refine (last_triple HL _ hm2 hs2).mono ?_
          rintro e w3 ⟨ad3, n3, rfl, _, hb⟩
          have HB3 := Lib.hid (below_next HB2.out hb)
          have HP3 := Lib.hid (heap_below hb _ _ HP2.out)
          have HR3 := Lib.hid (HR.out.below HB3.out)
          have hm3 := hm.below HB3.out
          clear hb
          go_wp2_with fail
          refine (under_pair HU _ hm3 hs hs2).mono ?_
          rintro e w4 ⟨rfl, hb⟩
          have HB4 := Lib.hid (below_next HB3.out hb)
          have HP4 := Lib.hid (heap_below hb _ _ HP3.out)
          have HR4 := Lib.hid (HR.out.below HB4.out)
          have hm4 := hm.below HB4.out
          clear hb
          have c2 := HR4.out.fileCell HOK.out HI.out HD.out
          cases n
          · go_wp2_with fail
            refine (place_any HR4.out HOK.out tt hm4 hs2).mono ?_
            rintro e w5 ⟨⟨v, s2, rfl, hpl⟩, hb⟩
            obtain ⟨l2, k, h1, h2, h3, h4, h5, rfl⟩ := hpl HC2.out
            rw [HC2.out]
            have HB5 := Lib.hid (below_next HB4.out hb)
            have HR5 := Lib.hid (HR.out.below HB5.out)
            have HP5 := Lib.hid (heap_below hb _ _ HP4.out)
            have G2 := Lib.hid h2
            have G3 := Lib.hid h3
            have G4 := Lib.hid h4
            have G5 := Lib.hid h5
            clear hpl hb h1 h2 h3 h4 h5
            go_wp2_with fail
            refine (is_any (HR5.out.below ((Below.refl _ _).alloc (Nat.le_refl _) _)) G3.out G4.out s2).mono ?_
            rintro e w6 ⟨rfl, hb2⟩
            have hb12 := below_next ((Below.refl w5.heap.size w5).alloc (Nat.le_refl _) _) hb2
            have HQ6 : Hid (w6.heap[w5.heap.size]? = some (.cells #[ptr (φ k), .string s2] 88 (0, 0))) := heap_below hb2 _ _ (heap_alloc_new w5 _)
            have HP6 := Lib.hid (heap_below hb12 _ _ HP5.out)
            have HB6 := Lib.hid (below_next HB5.out hb12)
            have HR6 := Lib.hid (HR.out.below HB6.out)
            have hm6 := hm.below HB6.out
            rw [← G2.out]
            clear hb2 hb12
            rw [HG.out]
            simp only [Option.map_some, ptrO, ptr]
            obtain ⟨_, _, hti6⟩ := HR6.out.thing HOK.out (has_idOf HOK.out HI.out)
            obtain ⟨_, _, htj6⟩ := HR6.out.thing HOK.out (has_idOf HOK.out HJ.out)
            have p3 := eql_other htj6 hti6 (fun e => HIJ.out (HR6.out.inj _ _ (has_idOf HOK.out HI.out) (has_idOf HOK.out HJ.out) e.symm))
            clear hti6 htj6
            go_wp2_with fail
            have hon := onto_any HR6.out HOK.out HI.out (full tt) HK.out
            rw [HG.out] at hon
            refine hon.mono ?_
            rintro e w7 ⟨rfl, hb⟩
            rw [HOC.out]
            have HB7 := Lib.hid (below_next HB6.out hb)
            have HR7 := Lib.hid (HR.out.below HB7.out)
            have HP7 := Lib.hid (heap_below hb _ _ HP6.out)
            have HQ7 := Lib.hid (heap_below hb _ _ HQ6.out)
            clear hb p3
            have e0 : w7.cell? ⟨w5.heap.size, 0, none⟩ = some (ptr (φ k)) := cell_of_heap HQ7.out rfl
            have e1 : w7.cell? ⟨w5.heap.size, 1, none⟩ = some (.string s2) := cell_of_heap HQ7.out rfl
            unfold ptr at e0
            have KG : Hid (t.find (l2 ++ [s2]) = some j) := by show t.find (l2 ++ [s2]) = some j; rw [← G2.out]; exact HG.out
            obtain ⟨hdk, lk, hlk, _⟩ := HR7.out.dir k l2 G3.out G4.out
            have HDK := Lib.hid hdk
            have HLK := Lib.hid hlk
            have hgetk : Hid (getM lk s2 = some (φ j)) := by
              show getM lk s2 = some (φ j)
              rw [HR7.out.entries G3.out G4.out hlk, KG.out]; rfl
            obtain ⟨dj, mj, htj⟩ := HR7.out.thing HOK.out (has_idOf HOK.out HJ.out)
            have HTj := Lib.hid htj
            clear hdk hlk htj
            go_wp2_with fail
            refine (away_any HDK.out HLK.out hgetk.out HTj.out (HLk.out j) (links_pos HOK.out KG.out)).mono ?_
            rintro e wz ⟨rfl, ⟨o3, ho3, hm3'⟩, hb3, hT3⟩
            have hbelow : ∀ s k, (l2 ++ [s2] ++ [s], k) ∉ t.names := by rw [← G2.out]; exact onto_below HOK.out HG.out HOC.out
            have hHz := HR7.out.forget HOK.out G3.out G4.out KG.out hbelow HLK.out (fun b o ho h1 h2 => hT3.heap ho (fun h => h.elim h1 h2)) HTj.out hb3 hm3' ho3
            have HRz := Lib.hid hHz
            have HOKz := Lib.hid (HOK.out.forget KG.out hbelow)
            have hneq : l ++ [s] ≠ l2 ++ [s2] := by
              rw [← H2.out, ← G2.out]
              intro e
              have h1 := HF.out
              rw [e, HG.out] at h1
              exact HIJ.out (Option.some.inj h1).symm
            have hat := forget_at HOK.out KG.out hbelow H3.out (by rw [← H2.out]; exact HF.out) hneq
            have A3 := Lib.hid hat.1
            have AF := Lib.hid hat.2
            have hlne : l ≠ l2 ++ [s2] := fun e => hbelow s i (by rw [← e, ← H2.out]; exact (find_mem HOK.out).1 HF.out)
            have A4 : Hid ((t.forget (l2 ++ [s2])).isDir a = true) := by
              show (t.forget (l2 ++ [s2])).isDir a = true
              rw [isDir_forget HOK.out KG.out hbelow H3.out hlne]; exact H4.out
            have K3 := Lib.hid (forget_up HOK.out KG.out G3.out)
            have K4 : Hid ((t.forget (l2 ++ [s2])).isDir k = true) := by
              show (t.forget (l2 ++ [s2])).isDir k = true
              rw [isDir_forget HOK.out KG.out hbelow G3.out (fun e => by have := congrArg List.length e; simp at this)]; exact G4.out
            have KF : Hid ((t.forget (l2 ++ [s2])).find (l2 ++ [s2]) = none) := by
              show (t.forget (l2 ++ [s2])).find (l2 ++ [s2]) = none
              rw [find_forget HOK.out KG.out, if_pos rfl]
            have hdi : (t.forget (l2 ++ [s2])).isDir i = t.isDir i := isDir_forget HOK.out KG.out hbelow (by rw [← H2.out]; exact HI.out) hneq
            have KL : Hid ((t.forget (l2 ++ [s2])).isDir i = true → ¬ l ++ [s] <+: l2 ++ [s2]) := by
              show (t.forget (l2 ++ [s2])).isDir i = true → ¬ l ++ [s] <+: l2 ++ [s2]
              rw [hdi, ← H2.out, ← G2.out]; exact HNP.out
            have HLz : Hid ((t.forget (l2 ++ [s2])).links i ≤ 1000000) := by
              show (t.forget (l2 ++ [s2])).links i ≤ 1000000
              rw [forget_links HOK.out KG.out]
              have := HLk.out i
              omega
            have BND : Hid (φ i < w.heap.size ∧ μ a < w.heap.size) := ⟨HR.out.lt_thing HOK.out (has_idOf HOK.out HI.out), HR.out.lt_map HOK.out (has_idOf HOK.out H3.out) H4.out⟩
            have hbk : φ j < w.heap.size ∧ μ k < w.heap.size := ⟨HR.out.lt_thing HOK.out (has_idOf HOK.out HJ.out), HR.out.lt_map HOK.out (has_idOf HOK.out G3.out) G4.out⟩
            have h15 : w.heap.size ≤ w5.heap.size := HB5.out.size
            have h11 : w.heap.size ≤ w1.heap.size := HB1.out.size
            have HPz : Hid (wz.heap[w1.heap.size]? = some (.cells #[ptr (φ a), .string s] 88 (0, 0))) := hT3.heap HP7.out (by rintro (e | e) <;> omega)
            have HQz : Hid (wz.heap[w5.heap.size]? = some (.cells #[ptr (φ k), .string s2] 88 (0, 0))) := hT3.heap HQ7.out (by rintro (e | e) <;> omega)
            have HTz : Hid (Turn (Rep.dom B t φ μ) w wz) := (Turn.of_below HB7.out).trans hT3 (K1 := Rep.dom B t φ μ) (fun _ _ h => h) (fun b _ h => by
              rcases h with rfl | rfl
              · exact dom_map (has_idOf HOK.out G3.out) G4.out
              · exact dom_thing (has_idOf HOK.out HJ.out))
            have HDz : Hid (∀ b, Rep.dom B (t.forget (l2 ++ [s2])) φ μ b → Rep.dom B t φ μ b) := fun b h => dom_forget HOK.out KG.out hbelow h
            have HMz : Hid (t.rename p tt = ((t.forget (l2 ++ [s2])).move ((t.forget (l2 ++ [s2])).isDir i) (l ++ [s]) (l2 ++ [s2]), 0)) := by
              show t.rename p tt = ((t.forget (l2 ++ [s2])).move ((t.forget (l2 ++ [s2])).isDir i) (l ++ [s]) (l2 ++ [s2]), 0)
              rw [hdi, ← H2.out, ← G2.out]; exact HM.out
            clear hHz hat hneq hlne hdi hbk h15 h11 hbelow ho3 hm3' hb3 hT3 e0 e1
            have c0 : wz.cell? ⟨w1.heap.size, 0, none⟩ = some (ptr (φ a)) := cell_of_heap HPz.out rfl
            have c1 : wz.cell? ⟨w1.heap.size, 1, none⟩ = some (.string s) := cell_of_heap HPz.out rfl
            unfold ptr at c0
            obtain ⟨hda, la, hla, _⟩ := HRz.out.dir a l A3.out A4.out
            have HDA := Lib.hid hda
            have HLA := Lib.hid hla
            have hget : Hid (getM la s = some (φ i)) := by
              show getM la s = some (φ i)
              rw [HRz.out.entries A3.out A4.out hla, AF.out]; rfl
            obtain ⟨di, mi, hti⟩ := HRz.out.thing HOKz.out (has_idOf HOKz.out (find_idOf HOKz.out AF.out))
            have HTi := Lib.hid hti
            clear hda hla hti
            go_wp2_with fail
            refine (away_any HDA.out HLA.out hget.out HTi.out HLz.out (links_pos HOKz.out AF.out)).mono ?_
            rintro e wy ⟨rfl, ⟨o4, ho4, hm4'⟩, hb4, hT4⟩
            obtain ⟨⟨lk, hlk⟩, dd, dn, hdk⟩ := put_ready HRz.out HOKz.out A3.out A4.out AF.out K3.out K4.out KL.out ho4 hm4' hT4
            have h15 : w.heap.size ≤ w5.heap.size := HB5.out.size
            have hQy : wy.heap[w5.heap.size]? = some (.cells #[ptr (φ k), .string s2] 88 (0, 0)) := hT4.heap HQz.out (by
              have := BND.out
              rintro (e | e) <;> omega)
            have d0 : wy.cell? ⟨w5.heap.size, 0, none⟩ = some (ptr (φ k)) := cell_of_heap hQy rfl
            have d1 : wy.cell? ⟨w5.heap.size, 1, none⟩ = some (.string s2) := cell_of_heap hQy rfl
            unfold ptr at d0
            have Hlk := Lib.hid hlk
            have Hdk := Lib.hid hdk
            have Ho4 := Lib.hid ho4
            have Hm4 := Lib.hid hm4'
            have Hb4 := Lib.hid hb4
            have HT4 := Lib.hid hT4
            clear hlk hdk ho4 hm4' hb4 hT4 hQy h15 c0 c1
            go_wp2_with fail
            refine (put_any Hdk.out Hlk.out Hb4.out (Nat.le_trans (Nat.sub_le _ _) HLz.out)).mono ?_
            rintro e wx ⟨rfl, ⟨o5, ho5, hm5⟩, hb5, hT5⟩
            go_wp2
            go_ret
            obtain ⟨h1, h2⟩ := moved_rep HRz.out HOKz.out A3.out A4.out AF.out K3.out K4.out G5.out KF.out KL.out HLA.out Hlk.out HTi.out (links_pos HOKz.out AF.out) Ho4.out Hm4.out HT4.out ho5 hm5 hb5 hT5
            unfold OpPost
            rw [HMz.out]
            exact ⟨rfl, h1, HTz.out.trans h2 (fun _ _ h => h) (fun b hb h => HDz.out b h), fun b h => HDz.out b h⟩
          · go_wp2_with fail
            refine (place_any HR4.out HOK.out tt hm4 hs2).mono ?_
            rintro e w5 ⟨⟨v, s2, rfl, hpl⟩, hb⟩
            obtain ⟨l2, k, h1, h2, h3, h4, h5, rfl⟩ := hpl HC2.out
            rw [HC2.out]
            have HB5 := Lib.hid (below_next HB4.out hb)
            have HR5 := Lib.hid (HR.out.below HB5.out)
            have HP5 := Lib.hid (heap_below hb _ _ HP4.out)
            have G2 := Lib.hid h2
            have G3 := Lib.hid h3
            have G4 := Lib.hid h4
            have G5 := Lib.hid h5
            clear hpl hb h1 h2 h3 h4 h5
            go_wp2_with fail
            refine (is_any (HR5.out.below ((Below.refl _ _).alloc (Nat.le_refl _) _)) G3.out G4.out s2).mono ?_
            rintro e w6 ⟨rfl, hb2⟩
            have hb12 := below_next ((Below.refl w5.heap.size w5).alloc (Nat.le_refl _) _) hb2
            have HQ6 : Hid (w6.heap[w5.heap.size]? = some (.cells #[ptr (φ k), .string s2] 88 (0, 0))) := heap_below hb2 _ _ (heap_alloc_new w5 _)
            have HP6 := Lib.hid (heap_below hb12 _ _ HP5.out)
            have HB6 := Lib.hid (below_next HB5.out hb12)
            have HR6 := Lib.hid (HR.out.below HB6.out)
            have hm6 := hm.below HB6.out
            rw [← G2.out]
            clear hb2 hb12
            rw [HG.out]
            simp only [Option.map_some, ptrO, ptr]
            obtain ⟨_, _, hti6⟩ := HR6.out.thing HOK.out (has_idOf HOK.out HI.out)
            obtain ⟨_, _, htj6⟩ := HR6.out.thing HOK.out (has_idOf HOK.out HJ.out)
            have p3 := eql_other htj6 hti6 (fun e => HIJ.out (HR6.out.inj _ _ (has_idOf HOK.out HI.out) (has_idOf HOK.out HJ.out) e.symm))
            clear hti6 htj6
            go_wp2_with fail
            have hon := onto_any HR6.out HOK.out HI.out (full tt) HK.out
            rw [HG.out] at hon
            refine hon.mono ?_
            rintro e w7 ⟨rfl, hb⟩
            rw [HOC.out]
            have HB7 := Lib.hid (below_next HB6.out hb)
            have HR7 := Lib.hid (HR.out.below HB7.out)
            have HP7 := Lib.hid (heap_below hb _ _ HP6.out)
            have HQ7 := Lib.hid (heap_below hb _ _ HQ6.out)
            clear hb p3
            have e0 : w7.cell? ⟨w5.heap.size, 0, none⟩ = some (ptr (φ k)) := cell_of_heap HQ7.out rfl
            have e1 : w7.cell? ⟨w5.heap.size, 1, none⟩ = some (.string s2) := cell_of_heap HQ7.out rfl
            unfold ptr at e0
            have KG : Hid (t.find (l2 ++ [s2]) = some j) := by show t.find (l2 ++ [s2]) = some j; rw [← G2.out]; exact HG.out
            obtain ⟨hdk, lk, hlk, _⟩ := HR7.out.dir k l2 G3.out G4.out
            have HDK := Lib.hid hdk
            have HLK := Lib.hid hlk
            have hgetk : Hid (getM lk s2 = some (φ j)) := by
              show getM lk s2 = some (φ j)
              rw [HR7.out.entries G3.out G4.out hlk, KG.out]; rfl
            obtain ⟨dj, mj, htj⟩ := HR7.out.thing HOK.out (has_idOf HOK.out HJ.out)
            have HTj := Lib.hid htj
            clear hdk hlk htj
            go_wp2_with fail
            refine (away_any HDK.out HLK.out hgetk.out HTj.out (HLk.out j) (links_pos HOK.out KG.out)).mono ?_
            rintro e wz ⟨rfl, ⟨o3, ho3, hm3'⟩, hb3, hT3⟩
            have hbelow : ∀ s k, (l2 ++ [s2] ++ [s], k) ∉ t.names := by rw [← G2.out]; exact onto_below HOK.out HG.out HOC.out
            have hHz := HR7.out.forget HOK.out G3.out G4.out KG.out hbelow HLK.out (fun b o ho h1 h2 => hT3.heap ho (fun h => h.elim h1 h2)) HTj.out hb3 hm3' ho3
            have HRz := Lib.hid hHz
            have HOKz := Lib.hid (HOK.out.forget KG.out hbelow)
            have hneq : l ++ [s] ≠ l2 ++ [s2] := by
              rw [← H2.out, ← G2.out]
              intro e
              have h1 := HF.out
              rw [e, HG.out] at h1
              exact HIJ.out (Option.some.inj h1).symm
            have hat := forget_at HOK.out KG.out hbelow H3.out (by rw [← H2.out]; exact HF.out) hneq
            have A3 := Lib.hid hat.1
            have AF := Lib.hid hat.2
            have hlne : l ≠ l2 ++ [s2] := fun e => hbelow s i (by rw [← e, ← H2.out]; exact (find_mem HOK.out).1 HF.out)
            have A4 : Hid ((t.forget (l2 ++ [s2])).isDir a = true) := by
              show (t.forget (l2 ++ [s2])).isDir a = true
              rw [isDir_forget HOK.out KG.out hbelow H3.out hlne]; exact H4.out
            have K3 := Lib.hid (forget_up HOK.out KG.out G3.out)
            have K4 : Hid ((t.forget (l2 ++ [s2])).isDir k = true) := by
              show (t.forget (l2 ++ [s2])).isDir k = true
              rw [isDir_forget HOK.out KG.out hbelow G3.out (fun e => by have := congrArg List.length e; simp at this)]; exact G4.out
            have KF : Hid ((t.forget (l2 ++ [s2])).find (l2 ++ [s2]) = none) := by
              show (t.forget (l2 ++ [s2])).find (l2 ++ [s2]) = none
              rw [find_forget HOK.out KG.out, if_pos rfl]
            have hdi : (t.forget (l2 ++ [s2])).isDir i = t.isDir i := isDir_forget HOK.out KG.out hbelow (by rw [← H2.out]; exact HI.out) hneq
            have KL : Hid ((t.forget (l2 ++ [s2])).isDir i = true → ¬ l ++ [s] <+: l2 ++ [s2]) := by
              show (t.forget (l2 ++ [s2])).isDir i = true → ¬ l ++ [s] <+: l2 ++ [s2]
              rw [hdi, ← H2.out, ← G2.out]; exact HNP.out
            have HLz : Hid ((t.forget (l2 ++ [s2])).links i ≤ 1000000) := by
              show (t.forget (l2 ++ [s2])).links i ≤ 1000000
              rw [forget_links HOK.out KG.out]
              have := HLk.out i
              omega
            have BND : Hid (φ i < w.heap.size ∧ μ a < w.heap.size) := ⟨HR.out.lt_thing HOK.out (has_idOf HOK.out HI.out), HR.out.lt_map HOK.out (has_idOf HOK.out H3.out) H4.out⟩
            have hbk : φ j < w.heap.size ∧ μ k < w.heap.size := ⟨HR.out.lt_thing HOK.out (has_idOf HOK.out HJ.out), HR.out.lt_map HOK.out (has_idOf HOK.out G3.out) G4.out⟩
            have h15 : w.heap.size ≤ w5.heap.size := HB5.out.size
            have h11 : w.heap.size ≤ w1.heap.size := HB1.out.size
            have HPz : Hid (wz.heap[w1.heap.size]? = some (.cells #[ptr (φ a), .string s] 88 (0, 0))) := hT3.heap HP7.out (by rintro (e | e) <;> omega)
            have HQz : Hid (wz.heap[w5.heap.size]? = some (.cells #[ptr (φ k), .string s2] 88 (0, 0))) := hT3.heap HQ7.out (by rintro (e | e) <;> omega)
            have HTz : Hid (Turn (Rep.dom B t φ μ) w wz) := (Turn.of_below HB7.out).trans hT3 (K1 := Rep.dom B t φ μ) (fun _ _ h => h) (fun b _ h => by
              rcases h with rfl | rfl
              · exact dom_map (has_idOf HOK.out G3.out) G4.out
              · exact dom_thing (has_idOf HOK.out HJ.out))
            have HDz : Hid (∀ b, Rep.dom B (t.forget (l2 ++ [s2])) φ μ b → Rep.dom B t φ μ b) := fun b h => dom_forget HOK.out KG.out hbelow h
            have HMz : Hid (t.rename p tt = ((t.forget (l2 ++ [s2])).move ((t.forget (l2 ++ [s2])).isDir i) (l ++ [s]) (l2 ++ [s2]), 0)) := by
              show t.rename p tt = ((t.forget (l2 ++ [s2])).move ((t.forget (l2 ++ [s2])).isDir i) (l ++ [s]) (l2 ++ [s2]), 0)
              rw [hdi, ← H2.out, ← G2.out]; exact HM.out
            clear hHz hat hneq hlne hdi hbk h15 h11 hbelow ho3 hm3' hb3 hT3 e0 e1
            have c0 : wz.cell? ⟨w1.heap.size, 0, none⟩ = some (ptr (φ a)) := cell_of_heap HPz.out rfl
            have c1 : wz.cell? ⟨w1.heap.size, 1, none⟩ = some (.string s) := cell_of_heap HPz.out rfl
            unfold ptr at c0
            obtain ⟨hda, la, hla, _⟩ := HRz.out.dir a l A3.out A4.out
            have HDA := Lib.hid hda
            have HLA := Lib.hid hla
            have hget : Hid (getM la s = some (φ i)) := by
              show getM la s = some (φ i)
              rw [HRz.out.entries A3.out A4.out hla, AF.out]; rfl
            obtain ⟨di, mi, hti⟩ := HRz.out.thing HOKz.out (has_idOf HOKz.out (find_idOf HOKz.out AF.out))
            have HTi := Lib.hid hti
            clear hda hla hti
            go_wp2_with fail
            refine (away_any HDA.out HLA.out hget.out HTi.out HLz.out (links_pos HOKz.out AF.out)).mono ?_
            rintro e wy ⟨rfl, ⟨o4, ho4, hm4'⟩, hb4, hT4⟩
            obtain ⟨⟨lk, hlk⟩, dd, dn, hdk⟩ := put_ready HRz.out HOKz.out A3.out A4.out AF.out K3.out K4.out KL.out ho4 hm4' hT4
            have h15 : w.heap.size ≤ w5.heap.size := HB5.out.size
            have hQy : wy.heap[w5.heap.size]? = some (.cells #[ptr (φ k), .string s2] 88 (0, 0)) := hT4.heap HQz.out (by
              have := BND.out
              rintro (e | e) <;> omega)
            have d0 : wy.cell? ⟨w5.heap.size, 0, none⟩ = some (ptr (φ k)) := cell_of_heap hQy rfl
            have d1 : wy.cell? ⟨w5.heap.size, 1, none⟩ = some (.string s2) := cell_of_heap hQy rfl
            unfold ptr at d0
            have Hlk := Lib.hid hlk
            have Hdk := Lib.hid hdk
            have Ho4 := Lib.hid ho4
            have Hm4 := Lib.hid hm4'
            have Hb4 := Lib.hid hb4
            have HT4 := Lib.hid hT4
            clear hlk hdk ho4 hm4' hb4 hT4 hQy h15 c0 c1
            go_wp2_with fail
            refine (put_any Hdk.out Hlk.out Hb4.out (Nat.le_trans (Nat.sub_le _ _) HLz.out)).mono ?_
            rintro e wx ⟨rfl, ⟨o5, ho5, hm5⟩, hb5, hT5⟩
            go_wp2
            go_ret
            obtain ⟨h1, h2⟩ := moved_rep HRz.out HOKz.out A3.out A4.out AF.out K3.out K4.out G5.out KF.out KL.out HLA.out Hlk.out HTi.out (links_pos HOKz.out AF.out) Ho4.out Hm4.out HT4.out ho5 hm5 hb5 hT5
            unfold OpPost
            rw [HMz.out]
            exact ⟨rfl, h1, HTz.out.trans h2 (fun _ _ h => h) (fun b hb h => HDz.out b h), fun b h => HDz.out b h⟩
end
end Go.Proofs.YtcgpmnlondnbhaaDoor
