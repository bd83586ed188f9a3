/-
  Walks of the reference's layer 15: Format.
-/
import Derived.Test.YtgofmnhfajmbfaaGreatDoorRefOf
import Derived.Test.YtgofmnhfajmbfaaGreatDoorRefNode
import Derived.Test.YtgofmnhfajmbfaaGreatDoorRefSuper
import Derived.Test.YtgofmnhfajmbfaaGreatDoorRefSectors
import Derived.Test.YtgofmnhfajmbfaaGreatDoorRefNodeT
import Derived.Test.YtgofmnhfajmbfaaGreatDoorAllocA
import Derived.Test.YtgofmnhfajmbfaaGreatDoorSpFmt
namespace Go.Proofs.YtgofmnhfajmbfaaGreatDoor
open Go Go.RowKit Txt Sp

section
set_option maxHeartbeats 8000000
/-- The list of sectors, as far as it is made. -/
def fmtK (g : Sp.Geom) (k : Nat) : List ByteArray := ((allL g).take k).map (fun x => secOf g x.kind x.number)
theorem fmtK_snoc {g : Sp.Geom} {k : Nat} {x : Sp.Thing} (hx : (allL g)[k]? = some x) : fmtK g (k + 1) = fmtK g k ++ [secOf g x.kind x.number] := by
  unfold fmtK
  rw [take_step hx, List.map_append, List.map_cons, List.map_nil]
theorem fmtK_all {g : Sp.Geom} (hg : g.ok) : fmtK g (allL g).length = formatL g := by
  unfold fmtK
  rw [List.take_length, formatL_all hg]
def RFormatPost (g : Sp.Geom) (w : World) (e : Ending) (w' : World) : Prop :=
  ∃ v, e = .returned (.tuple #[v, .int .i64 g.check]) ∧ RTexts w.heap.size w' v (if g.ok then formatL g else []) ∧ Below w.heap.size w w'
theorem secOf_0 (g : Sp.Geom) (n : Int) : secOf g 0 n = superB g := rfl
theorem secOf_1 (g : Sp.Geom) (n : Int) : secOf g 1 n = wallB 0 0 := rfl
theorem secOf_2 (g : Sp.Geom) (n : Int) : secOf g 2 n = Sp.blank := by
  unfold secOf
  rw [if_neg (by decide), if_neg (by decide), if_neg (by omega), if_neg (by omega)]
theorem secOf_30 (g : Sp.Geom) : secOf g 3 0 = ofL (1 :: zeros 63) := rfl
theorem secOf_3 (g : Sp.Geom) {n : Int} (h : n ≠ 0) : secOf g 3 n = Sp.blank := by
  unfold secOf
  rw [if_neg (by decide), if_neg (by decide), if_neg (fun x => h x.2), if_neg (by omega)]
theorem secOf_51 (g : Sp.Geom) : secOf g 5 1 = inodeB rootN := rfl
theorem secOf_5 (g : Sp.Geom) {n : Int} (h : n ≠ 1) : secOf g 5 n = Sp.blank := by
  unfold secOf
  rw [if_neg (by decide), if_neg (by decide), if_neg (by omega), if_neg (fun x => h x.2)]
theorem secOf_o (g : Sp.Geom) {k n : Int} (h0 : k ≠ 0) (h1 : k ≠ 1) (h3 : k ≠ 3) (h5 : k ≠ 5) : secOf g k n = Sp.blank := by
  unfold secOf
  rw [if_neg h0, if_neg h1, if_neg (fun x => h3 x.1), if_neg (fun x => h5 x.1)]
set_option maxRecDepth 20000 in
theorem rformat_any (w : World) (g : Sp.Geom) : Calls Tryz.prog 8 #[gV g] w (RFormatPost g w) := by
  have hch := fun W : World => rgcheck_any W g
  by_cases hg : g.ok
  rotate_left
  · have HN4 : Hid (∀ w', Below w.heap.size w w' → RFormatPost g w (.returned (.tuple #[.slice none 0 0, .int .i64 4])) w') := fun w' hb => ⟨_, by rw [Geom.check_no hg], by rw [if_neg hg]; exact OwnR.void _ _, hb⟩
    rw [Geom.check_no hg] at hch
    obtain ⟨Q, hQ⟩ : ∃ Q, RFormatPost g w = Q := ⟨_, rfl⟩
    rw [hQ] at HN4 ⊢
    clear hg hQ
    obtain ⟨ga, gb, gc⟩ := g
    unfold gV at hch ⊢
    have HCH := Lib.hid hch
    clear hch
    obtain ⟨W0, hW0⟩ : ∃ W, w.alloc (.cells #[.int .i64 ga, .int .i64 gb, .int .i64 gc] 23) = W := ⟨_, rfl⟩
    have hk := g_keep hW0
    have HB0 := Lib.hid hk.1
    have HK := Lib.hid hk.2
    clear hk
    obtain ⟨z0, z1, z2⟩ := HK.out W0 (Below.refl _ _)
    go_enter Tryz.func8, Tryz.ntmps8
    go_wp2_with fail
    refine (HCH.out _).mono ?_
    rintro e w1 ⟨rfl, hb1⟩
    have HB1 := Lib.hid (blN (Below.refl _ _) hb1)
    clear hb1
    clear z0 z1 z2
    go_wp2
    first | exact HN4.out _ (blN HB0.out HB1.out) | (go_ret2; exact HN4.out _ (blN HB0.out HB1.out))
  rw [Geom.check_ok hg] at hch
  have hsz := Geom.size_bd hg
  have hrb := Geom.regions_bd hg
  have hal := allL_length hg
  have hall := fun W : World => rgall_any W g hg
  unfold AllPost at hall
  have hreg := fun W : World => rgregions_any W g
  obtain ⟨R, hR⟩ : ∃ N : Nat, g.regions = (N : Int) := ⟨g.regions.toNat, by omega⟩
  rw [hR] at hreg hrb
  have hmls := fun W : World => run_make_leas W R (by omega)
  have hbl := rblank_any
  have hone := fun W : World => rone_any W g (by have := hg.1; have := hg.2.1; omega) (by have := hg.2.2.1; have := hg.2.2.2.1; omega) (by have := hg.2.2.2.2.1; have := hg.2.2.2.2.2; omega)
  have hwal := fun W : World => rwall_any W 0 0
  have hrt := fun W : World => (rroot_any W)
  simp only [iA] at hrt
  have hnt0 := fun W : World => rntext_any W 2 1 0 1 1 0 0 0 0 0 0 0 0 0 (by decide) (by decide)
  obtain ⟨NI, hNI⟩ : ∃ N : Nat, g.inodes = (N : Int) := ⟨g.inodes.toNat, by have := hg.2.2.1; omega⟩
  have hof := fun (W : World) (b : Nat) (hb : W.heap[b]? = some (.cells #[.int .i64 0] 3 (0, 0))) => rof_any W NI (by have := hg.2.2.1; have := hg.2.2.2.1; omega) b hb
  rw [← hNI] at hof
  have htab := fun (i : Nat) (x : Sp.Thing) (hx : (allL g)[i]? = some x) (hk : x.kind = 2) => allL_table hg hx hk
  have hsnoc := fun (k : Nat) (x : Sp.Thing) (hx : (allL g)[k]? = some x) => fmtK_snoc hx
  have hsec : ∀ (W : World) (b : Nat), W.heap[b]? = some (leasO (List.replicate R (0, 0)) 185) → Calls Tryz.prog 46 #[.slice (some ⟨b, 0, none⟩) R R] W fun e w' => ∃ u, e = .returned u ∧ RTexts W.heap.size w' u (List.replicate ((g.regions + 15) / 16).toNat Sp.blank) ∧ Below W.heap.size W w' := fun W b hW => by
    have h := rtsectors_any W (.slice (some ⟨b, 0, none⟩) R R) (List.replicate R (0, 0)) (leas_row hW (by rw [List.length_replicate]; unfold maxLen; omega) (by rw [List.length_replicate])) (by rw [List.length_replicate]; omega) (fun x hx => by rw [(List.mem_replicate.1 hx).2]; decide)
    rw [tab_free, List.length_replicate] at h
    have e : ((g.regions + 15) / 16).toNat = (R + 15) / 16 := by omega
    rw [e]
    exact h
  have HY : Hid (∀ v w', RTexts w.heap.size w' v (fmtK g (allL g).length) → Below w.heap.size w w' → RFormatPost g w (.returned (.tuple #[v, .int .i64 0])) w') := fun v w' ho hb => ⟨v, by rw [Geom.check_ok hg], by rw [if_pos hg, ← fmtK_all hg]; exact ho, hb⟩
  obtain ⟨Q, hQ⟩ : ∃ Q, RFormatPost g w = Q := ⟨_, rfl⟩
  rw [hQ] at HY ⊢
  obtain ⟨L, hL⟩ : ∃ L, allL g = L := ⟨_, rfl⟩
  obtain ⟨T, hT⟩ : ∃ T, ((g.regions + 15) / 16).toNat = T := ⟨_, rfl⟩
  rw [hL] at hal hall HY
  simp only [hL] at htab hsnoc
  rw [hT] at htab hsec
  obtain ⟨ga, gb, gc⟩ := g
  unfold gV at hch hall hreg hone ⊢
  simp only at hch hall hreg hone hof ⊢
  change ∀ W, Calls _ _ _ W (fun e w' => e = .returned (.string (inodeB rootN)) ∧ _) at hnt0
  simp only [iA] at hnt0
  have HCH := Lib.hid hch
  have HALL := Lib.hid hall
  have HREG := Lib.hid hreg
  have HMLS := Lib.hid hmls
  have HBL := Lib.hid hbl
  have HONE := Lib.hid hone
  have HWAL := Lib.hid hwal
  have HRT := Lib.hid hrt
  have HNT0 := Lib.hid hnt0
  have HOF := Lib.hid hof
  have HTAB := Lib.hid htab
  have HSNOC := Lib.hid hsnoc
  have HSEC := Lib.hid hsec
  clear hch hall hreg hmls hbl hone hwal hrt hnt0 hof htab hsnoc hsec
  have HAL := Lib.hid hal
  clear hg hrb hR hNI hQ hL hT hal
  obtain ⟨W0, hW0⟩ : ∃ W, w.alloc (.cells #[.int .i64 ga, .int .i64 gb, .int .i64 gc] 23) = W := ⟨_, rfl⟩
  have hk := g_keep hW0
  have HB0 := Lib.hid hk.1
  have HK := Lib.hid hk.2
  clear hk
  obtain ⟨z0, z1, z2⟩ := HK.out W0 (Below.refl _ _)
  go_enter Tryz.func8, Tryz.ntmps8
  go_wp2_with fail
  refine (HCH.out _).mono ?_
  rintro e w1 ⟨rfl, hb1⟩
  have HB1 := Lib.hid (blN (Below.refl _ _) hb1)
  clear hb1
  clear z0 z1 z2
  obtain ⟨z0, z1, z2⟩ := HK.out w1 HB1.out
  go_wp2_with fail
  refine (HALL.out _).mono ?_
  rintro e w2 ⟨v2, rfl, ho2, hb2⟩
  have HB2 := Lib.hid (blN HB1.out hb2)
  have HO2 := Lib.hid ho2
  clear hb2 ho2
  clear z0 z1 z2
  obtain ⟨z0, z1, z2⟩ := HK.out w2 HB2.out
  go_wp2_with fail
  refine (HREG.out _).mono ?_
  rintro e w3 ⟨rfl, hb3⟩
  have HB3 := Lib.hid (blN HB2.out hb3)
  have HO3 : Hid (Things w1.heap.size w3 v2 L) := OwnR.below HO2.out hb3
  clear hb3 z0 z1 z2
  have hml := HMLS.out w3
  obtain ⟨W4, hW4⟩ : ∃ W, w3.alloc (leasO (List.replicate R (0, 0)) 185) = W := ⟨_, rfl⟩
  rw [hW4] at hml
  have hb4 : Below w3.heap.size w3 W4 := by rw [← hW4]; exact bl2 _
  have HB4 := Lib.hid (blN HB3.out hb4)
  have HO4 : Hid (Things w1.heap.size W4 v2 L) := OwnR.below HO3.out hb4
  have HR4 : Hid (W4.heap[w3.heap.size]? = some (leasO (List.replicate R (0, 0)) 185)) := by rw [← hW4]; exact heapNew w3 _
  clear hb4 hW4
  go_wp2_with fail
  refine (HSEC.out W4 w3.heap.size HR4.out).mono ?_
  rintro e w5 ⟨v5, rfl, ho5, hb5⟩
  have HB5 := Lib.hid (blN HB4.out hb5)
  have HO5 : Hid (Things w1.heap.size w5 v2 L) := OwnR.below HO4.out hb5
  have HT5 : Hid (RTexts W4.heap.size w5 v5 (List.replicate T Sp.blank)) := ho5
  clear hb5 ho5 hml HO4 HO3 HO2 HR4
  obtain ⟨ad, n, cap, rfl, HN, hn2, HF⟩ := things_facts HO5.out
  obtain ⟨ad5, n5, cap5, rfl, HNT, hn5, HFT⟩ := RowAt.facts (f := stC) (OwnR.row (fun _ _ => rfl) HT5.out)
  have hn : n ≤ 501 := by have h1 := HN.out; have h2 := HAL.out; omega
  obtain ⟨M, hM⟩ : ∃ M, fmtK ⟨ga, gb, gc⟩ = M := ⟨_, rfl⟩
  have HM0 : Hid (RTexts w5.heap.size w5 (.slice none 0 0) (M 0)) := by rw [← hM]; exact OwnR.void _ _
  have HML : Hid (∀ k, (M k).length ≤ k) := fun k => by rw [← hM]; unfold fmtK; rw [List.length_map, List.length_take]; omega
  rw [hM] at HY HSNOC
  have HNT1 := Lib.hid HNT0.out
  clear HB1 HB2 HB3 HB4 HREG HALL HCH HSEC hM
  go_wp2
  go_loopw [4, 7, 8, 25, 34, 43, 58, 80] (fun o i _ _ _ _ _ _ wr => ∃ k : Nat, k ≤ n ∧ i = .int .i64 (k : Int) ∧ Hid (RTexts w5.heap.size wr o (M k)) ∧ Hid (Below w5.heap.size w5 wr)) (fun _ i _ _ _ _ _ _ _ => n - (intOf i).toNat)
  case atStart => exact ⟨0, Nat.zero_le _, rfl, HM0, Below.refl _ _⟩
  case round =>
    obtain ⟨k, hk, rfl, HO, HB5r⟩ := hrel
    have HB := Lib.hid (blN HB5.out HB5r.out)
    by_cases hlt : k < n
    · obtain ⟨b, o, x, rfl, hbb, hx, hc0, hc1⟩ := HF.out k hlt
      have hsn := HSNOC.out k x hx
      have htb := HTAB.out k x hx
      obtain ⟨kd, nm, gr, pl⟩ := x
      simp only at hsn htb hc0 hc1
      have f1 : decide ((k : Int) < (n : Int)) = true := decide_eq_true (by omega)
      have hlen := HML.out k
      go_wp2_with fail
      refine (HBL.out _).mono ?_
      rintro e w6 ⟨rfl, hb6⟩
      have HB6 := Lib.hid (blN HB.out hb6)
      have HO6 : Hid (RTexts w5.heap.size w6 u4 (M k)) := OwnR.below HO.out hb6
      have HB56 := Lib.hid (blN HB5r.out hb6)
      have c0 : w6.cell? ⟨b, o + k * 4, none⟩ = some (.int .i64 kd) := (HB56.out.cell (p := ⟨b, o + k * 4, none⟩) hbb).trans hc0
      have c1 : w6.cell? ⟨b, o + k * 4 + 1, none⟩ = some (.int .i64 nm) := (HB56.out.cell (p := ⟨b, o + k * 4 + 1, none⟩) hbb).trans hc1
      clear hc0 hc1 hx hb6
      have hkn : (k : Int) < (n : Int) := by omega
      by_cases h0 : kd = 0
      · subst h0
        replace hsn := hsn.trans (congrArg (fun s => M k ++ [s]) (secOf_0 _ _))
        obtain ⟨S, hS⟩ : ∃ S, superB ⟨ga, gb, gc⟩ = S := ⟨_, rfl⟩
        simp only [hS] at hsn
        have hone := HONE.out
        rw [hS] at hone
        have HONE1 := Lib.hid hone
        have HSN := Lib.hid hsn
        clear hone hsn hS htb
        obtain ⟨z0, z1, z2⟩ := HK.out w6 HB6.out
        go_wp2_with fail
        refine (HONE1.out _).mono ?_
        rintro e w7 ⟨rfl, hb7⟩
        have HB7 := Lib.hid (blN HB56.out hb7)
        clear z0 z1 z2 c0 c1
        have HO7 : Hid (RTexts w5.heap.size w7 u4 (M k)) := OwnR.below HO6.out hb7
        clear hb7
        obtain ⟨ia9, ib9, ic9, id9, ie9⟩ := info_parts Tryz.infoText
        have hrow9 := HO7.out
        unfold OwnR at hrow9
        have HRow9 := Lib.hid hrow9
        clear hrow9
        have HIb9 := Lib.hid ib9
        have HIc9 := Lib.hid ic9
        have HId9 := Lib.hid id9
        have HIe9 := Lib.hid ie9
        clear ib9 ic9 id9 ie9
        go_wp2_with (at_builtin; refine wpList_append_lies _ rfl _ _ _ rfl w5.heap.size 9 ia9 _ 1 16 Tryz.underlying24 HIb9.out HIc9.out HId9.out HIe9.out rfl (by decide) _ _ _ rfl (HRow9.out.alloc _) ⟨w7.heap.size, 0, none⟩ 1 1 [.string S] rfl rfl (World.news_of_block (cs := #[.string S]) (t := 9) (fr := (0, 0)) (heapNew w7 _)) (by simp [Value.oneCell']) (by omega) ?c1 ?c2 ?c3 (w7.heap.size + 1) (by simp) ?_)
        case c1 => unfold maxLen; omega
        case c2 => omega
        case c3 => have := HB7.out.size; first | (simp; done) | (simp; omega)
        intro g9 cap9 w9 hown9 hgrow9 hat9 hlt9
        have HO9 := Lib.hid (OwnR.snoc (f := stC) (x := S) hown9 rfl rfl)
        have HB9 : Hid (Below w5.heap.size _ w9) := Below.grown (bl1 HB7.out _) hgrow9 (bl1 HB7.out _).size (fun q hq => (HRow9.out.lt q hq).1)
        clear hown9 hgrow9 hat9 hlt9 HRow9
        have HO10 : Hid (RTexts w5.heap.size w9 (.slice (some ⟨g9, 0, none⟩) ((M k).length + 1) cap9) (M (k + 1))) := by rw [HSN.out]; exact HO9.out
        clear HO9
        go_wp2
        go_roundw
        case rel => exact ⟨k + 1, by omega, by go_num, HO10, HB9⟩
        case measure => simp [intOf]; omega
      have f10 : (kd == (0 : Int)) = false := beq_false_of_ne h0
      by_cases h1 : kd = 1
      · subst h1
        replace hsn := hsn.trans (congrArg (fun s => M k ++ [s]) (secOf_1 _ _))
        obtain ⟨S, hS⟩ : ∃ S, wallB 0 0 = S := ⟨_, rfl⟩
        simp only [hS] at hsn
        have hwal := HWAL.out
        rw [hS] at hwal
        have HWAL1 := Lib.hid hwal
        have HSN := Lib.hid hsn
        clear hwal hsn hS htb
        go_wp2_with fail
        refine (HWAL1.out _).mono ?_
        rintro e w7 ⟨rfl, hb7⟩
        have HB7 := Lib.hid (blN HB56.out hb7)
        have HO7 : Hid (RTexts w5.heap.size w7 u4 (M k)) := OwnR.below HO6.out hb7
        clear hb7 c0 c1
        obtain ⟨ia9, ib9, ic9, id9, ie9⟩ := info_parts Tryz.infoText
        have hrow9 := HO7.out
        unfold OwnR at hrow9
        have HRow9 := Lib.hid hrow9
        clear hrow9
        have HIb9 := Lib.hid ib9
        have HIc9 := Lib.hid ic9
        have HId9 := Lib.hid id9
        have HIe9 := Lib.hid ie9
        clear ib9 ic9 id9 ie9
        go_wp2_with (at_builtin; refine wpList_append_lies _ rfl _ _ _ rfl w5.heap.size 9 ia9 _ 1 16 Tryz.underlying24 HIb9.out HIc9.out HId9.out HIe9.out rfl (by decide) _ _ _ rfl (HRow9.out.alloc _) ⟨w7.heap.size, 0, none⟩ 1 1 [.string S] rfl rfl (World.news_of_block (cs := #[.string S]) (t := 9) (fr := (0, 0)) (heapNew w7 _)) (by simp [Value.oneCell']) (by omega) ?c1 ?c2 ?c3 (w7.heap.size + 1) (by simp) ?_)
        case c1 => unfold maxLen; omega
        case c2 => omega
        case c3 => have := HB7.out.size; first | (simp; done) | (simp; omega)
        intro g9 cap9 w9 hown9 hgrow9 hat9 hlt9
        have HO9 := Lib.hid (OwnR.snoc (f := stC) (x := S) hown9 rfl rfl)
        have HB9 : Hid (Below w5.heap.size _ w9) := Below.grown (bl1 HB7.out _) hgrow9 (bl1 HB7.out _).size (fun q hq => (HRow9.out.lt q hq).1)
        clear hown9 hgrow9 hat9 hlt9 HRow9
        have HO10 : Hid (RTexts w5.heap.size w9 (.slice (some ⟨g9, 0, none⟩) ((M k).length + 1) cap9) (M (k + 1))) := by rw [HSN.out]; exact HO9.out
        clear HO9
        go_wp2
        go_roundw
        case rel => exact ⟨k + 1, by omega, by go_num, HO10, HB9⟩
        case measure => simp [intOf]; omega
      have f11 : (kd == (1 : Int)) = false := beq_false_of_ne h1
      by_cases h2 : kd = 2
      · subst h2
        obtain ⟨nt, rfl, hnt⟩ := htb rfl
        replace hsn := hsn.trans (congrArg (fun s => M k ++ [s]) (secOf_2 _ _))
        obtain ⟨S, hS⟩ : ∃ S, Sp.blank = S := ⟨_, rfl⟩
        simp only [hS] at hsn
        obtain ⟨bt, ot, xt, rfl, hbt, hxt, hct⟩ := HFT.out nt (by have := HNT.out; rw [List.length_replicate] at this; omega)
        have ext := (List.eq_of_mem_replicate (List.mem_of_getElem? hxt)).trans hS
        subst ext
        have c2 : w6.cell? ⟨bt, ot + nt, none⟩ = some (.string xt) := by
          have h := (HB56.out.cell (p := ⟨bt, ot + nt * 1 + 0, none⟩) hbt).trans (hct 0 _ rfl)
          simpa using h
        have f20 : (nt : Int) < (n5 : Int) := by have := HNT.out; rw [List.length_replicate] at this; omega
        have HSN := Lib.hid hsn
        clear hsn hS hxt hct hbt
        obtain ⟨ia9, ib9, ic9, id9, ie9⟩ := info_parts Tryz.infoText
        have hrow9 := HO6.out
        unfold OwnR at hrow9
        have HRow9 := Lib.hid hrow9
        clear hrow9
        have HIb9 := Lib.hid ib9
        have HIc9 := Lib.hid ic9
        have HId9 := Lib.hid id9
        have HIe9 := Lib.hid ie9
        clear ib9 ic9 id9 ie9
        go_wp2_with (at_builtin; refine wpList_append_lies _ rfl _ _ _ rfl w5.heap.size 9 ia9 _ 1 16 Tryz.underlying24 HIb9.out HIc9.out HId9.out HIe9.out rfl (by decide) _ _ _ rfl (HRow9.out.alloc _) ⟨w6.heap.size, 0, none⟩ 1 1 [.string xt] rfl rfl (World.news_of_block (cs := #[.string xt]) (t := 9) (fr := (0, 0)) (heapNew w6 _)) (by simp [Value.oneCell']) (by omega) ?c1 ?c2 ?c3 (w6.heap.size + 1) (by simp) ?_)
        case c1 => unfold maxLen; omega
        case c2 => omega
        case c3 => have := HB56.out.size; first | (simp; done) | (simp; omega)
        intro g9 cap9 w9 hown9 hgrow9 hat9 hlt9
        have HO9 := Lib.hid (OwnR.snoc (f := stC) (x := xt) hown9 rfl rfl)
        have HB9 : Hid (Below w5.heap.size _ w9) := Below.grown (bl1 HB56.out _) hgrow9 (bl1 HB56.out _).size (fun q hq => (HRow9.out.lt q hq).1)
        clear hown9 hgrow9 hat9 hlt9 HRow9
        have HO10 : Hid (RTexts w5.heap.size w9 (.slice (some ⟨g9, 0, none⟩) ((M k).length + 1) cap9) (M (k + 1))) := by rw [HSN.out]; exact HO9.out
        clear HO9
        go_wp2
        go_roundw
        case rel => exact ⟨k + 1, by omega, by go_num, HO10, HB9⟩
        case measure => simp [intOf]; omega
      have f12 : (kd == (2 : Int)) = false := beq_false_of_ne h2
      by_cases h3 : kd = 3
      · subst h3
        by_cases h30 : nm = 0
        · subst h30
          replace hsn := hsn.trans (congrArg (fun s => M k ++ [s]) (secOf_30 _))
          obtain ⟨S, hS⟩ : ∃ S, ofL (1 :: zeros 63) = S := ⟨_, rfl⟩
          simp only [hS] at hsn
          have hof := HOF.out
          rw [hS] at hof
          have HOF1 := Lib.hid hof
          have HSN := Lib.hid hsn
          clear hof hsn hS htb
          obtain ⟨z0, z1, z2⟩ := HK.out w6 HB6.out
          go_wp2_with fail
          refine (HOF1.out _ _ (heapNew w6 _)).mono ?_
          rintro e w7 ⟨rfl, hb7⟩
          have HB7 := Lib.hid (blN (bl1 HB56.out _) hb7)
          have HO7 : Hid (RTexts w5.heap.size w7 u4 (M k)) := OwnR.below (OwnR.below HO6.out (bl2 _)) hb7
          clear hb7 c0 c1 z0 z1 z2
          obtain ⟨ia9, ib9, ic9, id9, ie9⟩ := info_parts Tryz.infoText
          have hrow9 := HO7.out
          unfold OwnR at hrow9
          have HRow9 := Lib.hid hrow9
          clear hrow9
          have HIb9 := Lib.hid ib9
          have HIc9 := Lib.hid ic9
          have HId9 := Lib.hid id9
          have HIe9 := Lib.hid ie9
          clear ib9 ic9 id9 ie9
          go_wp2_with (at_builtin; refine wpList_append_lies _ rfl _ _ _ rfl w5.heap.size 9 ia9 _ 1 16 Tryz.underlying24 HIb9.out HIc9.out HId9.out HIe9.out rfl (by decide) _ _ _ rfl (HRow9.out.alloc _) ⟨w7.heap.size, 0, none⟩ 1 1 [.string S] rfl rfl (World.news_of_block (cs := #[.string S]) (t := 9) (fr := (0, 0)) (heapNew w7 _)) (by simp [Value.oneCell']) (by omega) ?c1 ?c2 ?c3 (w7.heap.size + 1) (by simp) ?_)
          case c1 => unfold maxLen; omega
          case c2 => omega
          case c3 => have := HB7.out.size; first | (simp; done) | (simp; omega)
          intro g9 cap9 w9 hown9 hgrow9 hat9 hlt9
          have HO9 := Lib.hid (OwnR.snoc (f := stC) (x := S) hown9 rfl rfl)
          have HB9 : Hid (Below w5.heap.size _ w9) := Below.grown (bl1 HB7.out _) hgrow9 (bl1 HB7.out _).size (fun q hq => (HRow9.out.lt q hq).1)
          clear hown9 hgrow9 hat9 hlt9 HRow9
          have HO10 : Hid (RTexts w5.heap.size w9 (.slice (some ⟨g9, 0, none⟩) ((M k).length + 1) cap9) (M (k + 1))) := by rw [HSN.out]; exact HO9.out
          clear HO9
          go_wp2
          go_roundw
          case rel => exact ⟨k + 1, by omega, by go_num, HO10, HB9⟩
          case measure => simp [intOf]; omega
        have f30 : (nm == (0 : Int)) = false := beq_false_of_ne h30
        replace hsn := hsn.trans (congrArg (fun s => M k ++ [s]) (secOf_3 _ h30))
        obtain ⟨S, hS⟩ : ∃ S, Sp.blank = S := ⟨_, rfl⟩
        simp only [hS] at hsn
        rw [hS]
        have HSN := Lib.hid hsn
        clear hsn hS htb
        obtain ⟨ia9, ib9, ic9, id9, ie9⟩ := info_parts Tryz.infoText
        have hrow9 := HO6.out
        unfold OwnR at hrow9
        have HRow9 := Lib.hid hrow9
        clear hrow9
        have HIb9 := Lib.hid ib9
        have HIc9 := Lib.hid ic9
        have HId9 := Lib.hid id9
        have HIe9 := Lib.hid ie9
        clear ib9 ic9 id9 ie9
        go_wp2_with (at_builtin; refine wpList_append_lies _ rfl _ _ _ rfl w5.heap.size 9 ia9 _ 1 16 Tryz.underlying24 HIb9.out HIc9.out HId9.out HIe9.out rfl (by decide) _ _ _ rfl (HRow9.out.alloc _) ⟨w6.heap.size, 0, none⟩ 1 1 [.string S] rfl rfl (World.news_of_block (cs := #[.string S]) (t := 9) (fr := (0, 0)) (heapNew w6 _)) (by simp [Value.oneCell']) (by omega) ?c1 ?c2 ?c3 (w6.heap.size + 1) (by simp) ?_)
        case c1 => unfold maxLen; omega
        case c2 => omega
        case c3 => have := HB56.out.size; first | (simp; done) | (simp; omega)
        intro g9 cap9 w9 hown9 hgrow9 hat9 hlt9
        have HO9 := Lib.hid (OwnR.snoc (f := stC) (x := S) hown9 rfl rfl)
        have HB9 : Hid (Below w5.heap.size _ w9) := Below.grown (bl1 HB56.out _) hgrow9 (bl1 HB56.out _).size (fun q hq => (HRow9.out.lt q hq).1)
        clear hown9 hgrow9 hat9 hlt9 HRow9
        have HO10 : Hid (RTexts w5.heap.size w9 (.slice (some ⟨g9, 0, none⟩) ((M k).length + 1) cap9) (M (k + 1))) := by rw [HSN.out]; exact HO9.out
        clear HO9
        go_wp2
        go_roundw
        case rel => exact ⟨k + 1, by omega, by go_num, HO10, HB9⟩
        case measure => simp [intOf]; omega
      have f13 : (kd == (3 : Int)) = false := beq_false_of_ne h3
      by_cases h5 : kd = 5
      · subst h5
        by_cases h51 : nm = 1
        · subst h51
          replace hsn := hsn.trans (congrArg (fun s => M k ++ [s]) (secOf_51 _))
          obtain ⟨S, hS⟩ : ∃ S, inodeB rootN = S := ⟨_, rfl⟩
          simp only [hS] at hsn
          have hnt := HNT1.out
          rw [hS] at hnt
          have HNT2 := Lib.hid hnt
          have HSN := Lib.hid hsn
          clear hnt hsn hS htb
          go_wp2_with fail
          refine (HRT.out _).mono ?_
          rintro e w7 ⟨rfl, hb7⟩
          have HB7 := Lib.hid (blN HB56.out hb7)
          have HO7 : Hid (RTexts w5.heap.size w7 u4 (M k)) := OwnR.below HO6.out hb7
          clear hb7 c0 c1
          go_wp2_with fail
          refine (HNT2.out _).mono ?_
          rintro e w8 ⟨rfl, hb8⟩
          have HB8 := Lib.hid (blN HB7.out hb8)
          have HO8 : Hid (RTexts w5.heap.size w8 u4 (M k)) := OwnR.below HO7.out hb8
          clear hb8
          obtain ⟨ia9, ib9, ic9, id9, ie9⟩ := info_parts Tryz.infoText
          have hrow9 := HO8.out
          unfold OwnR at hrow9
          have HRow9 := Lib.hid hrow9
          clear hrow9
          have HIb9 := Lib.hid ib9
          have HIc9 := Lib.hid ic9
          have HId9 := Lib.hid id9
          have HIe9 := Lib.hid ie9
          clear ib9 ic9 id9 ie9
          go_wp2_with (at_builtin; refine wpList_append_lies _ rfl _ _ _ rfl w5.heap.size 9 ia9 _ 1 16 Tryz.underlying24 HIb9.out HIc9.out HId9.out HIe9.out rfl (by decide) _ _ _ rfl (HRow9.out.alloc _) ⟨w8.heap.size, 0, none⟩ 1 1 [.string S] rfl rfl (World.news_of_block (cs := #[.string S]) (t := 9) (fr := (0, 0)) (heapNew w8 _)) (by simp [Value.oneCell']) (by omega) ?c1 ?c2 ?c3 (w8.heap.size + 1) (by simp) ?_)
          case c1 => unfold maxLen; omega
          case c2 => omega
          case c3 => have := HB8.out.size; first | (simp; done) | (simp; omega)
          intro g9 cap9 w9 hown9 hgrow9 hat9 hlt9
          have HO9 := Lib.hid (OwnR.snoc (f := stC) (x := S) hown9 rfl rfl)
          have HB9 : Hid (Below w5.heap.size _ w9) := Below.grown (bl1 HB8.out _) hgrow9 (bl1 HB8.out _).size (fun q hq => (HRow9.out.lt q hq).1)
          clear hown9 hgrow9 hat9 hlt9 HRow9
          have HO10 : Hid (RTexts w5.heap.size w9 (.slice (some ⟨g9, 0, none⟩) ((M k).length + 1) cap9) (M (k + 1))) := by rw [HSN.out]; exact HO9.out
          clear HO9
          go_wp2
          go_roundw
          case rel => exact ⟨k + 1, by omega, by go_num, HO10, HB9⟩
          case measure => simp [intOf]; omega
        have f51 : (nm == (1 : Int)) = false := beq_false_of_ne h51
        replace hsn := hsn.trans (congrArg (fun s => M k ++ [s]) (secOf_5 _ h51))
        obtain ⟨S, hS⟩ : ∃ S, Sp.blank = S := ⟨_, rfl⟩
        simp only [hS] at hsn
        rw [hS]
        have HSN := Lib.hid hsn
        clear hsn hS htb
        obtain ⟨ia9, ib9, ic9, id9, ie9⟩ := info_parts Tryz.infoText
        have hrow9 := HO6.out
        unfold OwnR at hrow9
        have HRow9 := Lib.hid hrow9
        clear hrow9
        have HIb9 := Lib.hid ib9
        have HIc9 := Lib.hid ic9
        have HId9 := Lib.hid id9
        have HIe9 := Lib.hid ie9
        clear ib9 ic9 id9 ie9
        go_wp2_with (at_builtin; refine wpList_append_lies _ rfl _ _ _ rfl w5.heap.size 9 ia9 _ 1 16 Tryz.underlying24 HIb9.out HIc9.out HId9.out HIe9.out rfl (by decide) _ _ _ rfl (HRow9.out.alloc _) ⟨w6.heap.size, 0, none⟩ 1 1 [.string S] rfl rfl (World.news_of_block (cs := #[.string S]) (t := 9) (fr := (0, 0)) (heapNew w6 _)) (by simp [Value.oneCell']) (by omega) ?c1 ?c2 ?c3 (w6.heap.size + 1) (by simp) ?_)
        case c1 => unfold maxLen; omega
        case c2 => omega
        case c3 => have := HB56.out.size; first | (simp; done) | (simp; omega)
        intro g9 cap9 w9 hown9 hgrow9 hat9 hlt9
        have HO9 := Lib.hid (OwnR.snoc (f := stC) (x := S) hown9 rfl rfl)
        have HB9 : Hid (Below w5.heap.size _ w9) := Below.grown (bl1 HB56.out _) hgrow9 (bl1 HB56.out _).size (fun q hq => (HRow9.out.lt q hq).1)
        clear hown9 hgrow9 hat9 hlt9 HRow9
        have HO10 : Hid (RTexts w5.heap.size w9 (.slice (some ⟨g9, 0, none⟩) ((M k).length + 1) cap9) (M (k + 1))) := by rw [HSN.out]; exact HO9.out
        clear HO9
        go_wp2
        go_roundw
        case rel => exact ⟨k + 1, by omega, by go_num, HO10, HB9⟩
        case measure => simp [intOf]; omega
      have f15 : (kd == (5 : Int)) = false := beq_false_of_ne h5
      replace hsn := hsn.trans (congrArg (fun s => M k ++ [s]) (secOf_o _ h0 h1 h3 h5))
      obtain ⟨S, hS⟩ : ∃ S, Sp.blank = S := ⟨_, rfl⟩
      simp only [hS] at hsn
      rw [hS]
      have HSN := Lib.hid hsn
      clear hsn hS htb
      obtain ⟨ia9, ib9, ic9, id9, ie9⟩ := info_parts Tryz.infoText
      have hrow9 := HO6.out
      unfold OwnR at hrow9
      have HRow9 := Lib.hid hrow9
      clear hrow9
      have HIb9 := Lib.hid ib9
      have HIc9 := Lib.hid ic9
      have HId9 := Lib.hid id9
      have HIe9 := Lib.hid ie9
      clear ib9 ic9 id9 ie9
      go_wp2_with (at_builtin; refine wpList_append_lies _ rfl _ _ _ rfl w5.heap.size 9 ia9 _ 1 16 Tryz.underlying24 HIb9.out HIc9.out HId9.out HIe9.out rfl (by decide) _ _ _ rfl (HRow9.out.alloc _) ⟨w6.heap.size, 0, none⟩ 1 1 [.string S] rfl rfl (World.news_of_block (cs := #[.string S]) (t := 9) (fr := (0, 0)) (heapNew w6 _)) (by simp [Value.oneCell']) (by omega) ?c1 ?c2 ?c3 (w6.heap.size + 1) (by simp) ?_)
      case c1 => unfold maxLen; omega
      case c2 => omega
      case c3 => have := HB56.out.size; first | (simp; done) | (simp; omega)
      intro g9 cap9 w9 hown9 hgrow9 hat9 hlt9
      have HO9 := Lib.hid (OwnR.snoc (f := stC) (x := S) hown9 rfl rfl)
      have HB9 : Hid (Below w5.heap.size _ w9) := Below.grown (bl1 HB56.out _) hgrow9 (bl1 HB56.out _).size (fun q hq => (HRow9.out.lt q hq).1)
      clear hown9 hgrow9 hat9 hlt9 HRow9
      have HO10 : Hid (RTexts w5.heap.size w9 (.slice (some ⟨g9, 0, none⟩) ((M k).length + 1) cap9) (M (k + 1))) := by rw [HSN.out]; exact HO9.out
      clear HO9
      go_wp2
      go_roundw
      case rel => exact ⟨k + 1, by omega, by go_num, HO10, HB9⟩
      case measure => simp [intOf]; omega
    · have f1 : decide ((k : Int) < (n : Int)) = false := decide_eq_false (by omega)
      obtain ⟨ad9, cap9, rfl⟩ := OwnR.form HO.out
      have ho := OwnR.mono HO.out (Nat.le_trans HB0.out.size HB5.out.size)
      have hY := HY.out
      rw [← show k = L.length by have := HN.out; omega] at hY
      have HFin := Lib.hid (hY _ _ ho (blN HB0.out HB.out))
      clear ho hY
      go_wp2
      first | exact HFin.out | (go_ret2; exact HFin.out)
end
end Go.Proofs.YtgofmnhfajmbfaaGreatDoor
