/-
  Walks of the reference's layer 8: Sectors, Encode.
-/
import Derived.Test.YtgofmnhfajmbfaaGreatDoorRefTable
namespace Go.Proofs.YtgofmnhfajmbfaaGreatDoor
open Go Go.RowKit Txt Sp

/-- The chunk j of leases. -/
def chunk (l : List (Int × Int)) (j : Nat) : List (Int × Int) := (l.drop (16 * j)).take 16
theorem chunk_step {l : List (Int × Int)} {j q : Nat} {x : Int × Int} (hq : q < 16) (hx : l[16 * j + q]? = some x) : (chunk l j).take (q + 1) = (chunk l j).take q ++ [x] := by
  refine take_step ?_
  unfold chunk
  rw [List.getElem?_take_of_lt hq, List.getElem?_drop]
  exact hx
theorem chunk_len {l : List (Int × Int)} {j q : Nat} (hq : q ≤ 16) (h : 16 * j + q ≤ l.length) : ((chunk l j).take q).length = q := by
  unfold chunk
  rw [List.length_take, List.length_take, List.length_drop]
  omega
theorem chunk_full {l : List (Int × Int)} {j q : Nat} (h : q = 16 ∨ l.length ≤ 16 * j + q) : (chunk l j).take q = chunk l j := by
  apply List.take_of_length_le
  unfold chunk
  rw [List.length_take, List.length_drop]
  omega
section
set_option maxHeartbeats 8000000
set_option maxRecDepth 20000 in
theorem rtsectors_any (w : World) (v : Value) (l : List (Int × Int)) (hv : Leases w v l) (hl : l.length ≤ 132) (hok : ∀ x ∈ l, leaseOk x) : Calls Tryz.prog 46 #[v] w fun e w' => ∃ u, e = .returned u ∧ RTexts w.heap.size w' u (tabB ((l.length + 15) / 16) l) ∧ Below w.heap.size w w' := by
  obtain ⟨ad, n, cap, rfl, HN, hn2, HF⟩ := RowAt.facts hv
  have hn : n ≤ 132 := by rw [HN.out]; exact hl
  have HOk := Lib.hid hok
  have htx := fun (W : World) (a b : Int) (h : leaseOk (a, b)) => rttext_any W a b h
  have HP : Hid (∀ u w', RTexts w.heap.size w' u (tabB ((l.length + 15) / 16) l) → Below w.heap.size w w' → (fun (e : Ending) (w' : World) => ∃ u, e = .returned u ∧ RTexts w.heap.size w' u (tabB ((l.length + 15) / 16) l) ∧ Below w.heap.size w w') (.returned u) w') := fun u w' ho hb => ⟨u, rfl, ho, hb⟩
  obtain ⟨Q, hQ⟩ : ∃ Q, (fun (e : Ending) (w' : World) => ∃ u, e = .returned u ∧ RTexts w.heap.size w' u (tabB ((l.length + 15) / 16) l) ∧ Below w.heap.size w w') = Q := ⟨_, rfl⟩
  rw [hQ] at HP ⊢
  have HO0 : Hid (RTexts w.heap.size w (.slice none 0 0) (tabB 0 l)) := OwnR.void _ _
  have HB0 : Hid (Below w.heap.size w w) := Below.refl _ _
  obtain ⟨T, hT⟩ : ∃ T, (n + 15) / 16 = T := ⟨_, rfl⟩
  rw [← HN.out, hT] at HP
  have HT := Lib.hid hT
  have HTX := Lib.hid htx
  clear htx
  clear hv hl hok hQ hT
  go_enter Tryz.func46, Tryz.ntmps46
  go_wp2
  go_loopw [3, 4, 5, 6] (fun u i _ _ wr => ∃ j : Nat, j ≤ T ∧ i = .int .i64 ((16 * j : Nat) : Int) ∧ Hid (RTexts w.heap.size wr u (tabB j l)) ∧ Hid (Below w.heap.size w wr)) (fun _ i _ _ _ => 16 * T - (intOf i).toNat)
  case atStart => exact ⟨0, Nat.zero_le _, rfl, HO0, HB0⟩
  case round =>
    obtain ⟨j, hj, rfl, HO, HB⟩ := hrel
    obtain ⟨p, hp⟩ : ∃ p, 16 * j = p := ⟨_, rfl⟩
    rw [hp]
    by_cases hlt : p < n
    · have f1 : decide ((p : Int) < (n : Int)) = true := decide_eq_true (by omega)
      have e16 : IntKind.i64.wrap ((p : Int) + 16) = (p : Int) + 16 := IntWalk.i64_in _ (by omega)
      have HPj := Lib.hid hp
      have HE0 : Hid ((⟨#[]⟩ : ByteArray) = ofL (((chunk l j).take 0).flatMap leaseB)) := rfl
      clear hp
      go_wp2_with fail
      rw [HE0.out]
      go_loopw [5, 6] (fun t i wr => ∃ q : Nat, q ≤ 16 ∧ p + q ≤ n ∧ i = .int .i64 ((p + q : Nat) : Int) ∧ t = .string (ofL (((chunk l j).take q).flatMap leaseB)) ∧ Hid (RTexts w.heap.size wr u3 (tabB j l)) ∧ Hid (Below w.heap.size w wr)) (fun _ i _ => n - (intOf i).toNat)
      case atStart => exact ⟨0, Nat.zero_le _, by omega, rfl, rfl, HO, HB⟩
      case round =>
        obtain ⟨q, hq, hqn, rfl, rfl, HO, HB⟩ := hrel
        obtain ⟨r, hr⟩ : ∃ r, p + q = r := ⟨_, rfl⟩
        rw [hr]
        have hzl : (ofL (((chunk l j).take q).flatMap leaseB)).size = 4 * q := by rw [ofL_size, flat_leases, chunk_len hq (by have := HPj.out; have := HN.out; omega)]
        by_cases hlt2 : r < p + 16 ∧ r < n
        · have f2 : decide ((r : Int) < (p : Int) + 16) = true := decide_eq_true (by omega)
          have f3 : decide ((r : Int) < (n : Int)) = true := decide_eq_true (by omega)
          obtain ⟨b, o, x, rfl, hb, hx, hc⟩ := HF.out r hlt2.2
          obtain ⟨xa, xb⟩ := x
          have c0 : wr.cell? ⟨b, o + r * 2, none⟩ = some (.int .i64 xa) := (HB.out.cell (p := ⟨b, o + r * 2, none⟩) hb).trans (hc 0 _ rfl)
          have c1 : wr.cell? ⟨b, o + r * 2 + 1, none⟩ = some (.int .i64 xb) := (HB.out.cell (p := ⟨b, o + r * 2 + 1, none⟩) hb).trans (hc 1 _ rfl)
          have htx := fun W : World => HTX.out W xa xb (HOk.out _ (List.mem_of_getElem? hx))
          have hcs := chunk_step (l := l) (j := j) (q := q) (x := (xa, xb)) (by omega) (by rw [HPj.out, hr]; exact hx)
          have hcat := text_cat (((chunk l j).take q).flatMap leaseB) (leaseB (xa, xb))
          have he : ((chunk l j).take q).flatMap leaseB ++ leaseB (xa, xb) = ((chunk l j).take (q + 1)).flatMap leaseB := by
            rw [hcs, List.flatMap_append, List.flatMap_cons, List.flatMap_nil, List.append_nil]
          rw [he] at hcat
          have hs4 : (ofL (leaseB (xa, xb))).size = 4 := by rw [ofL_size, leaseB_length]
          obtain ⟨A, hA⟩ : ∃ A, ofL (((chunk l j).take q).flatMap leaseB) = A := ⟨_, rfl⟩
          obtain ⟨B, hB⟩ : ∃ A, ofL (leaseB (xa, xb)) = A := ⟨_, rfl⟩
          obtain ⟨C, hC⟩ : ∃ A, ofL (((chunk l j).take (q + 1)).flatMap leaseB) = A := ⟨_, rfl⟩
          rw [hA] at hcat hzl ⊢
          rw [hB] at hcat htx hs4
          rw [hC] at hcat
          have hlim : ¬ 9223372036854775807 < A.size + B.size := by omega
          have HC := Lib.hid hC
          have HR := Lib.hid hr
          have HL2 := Lib.hid hlt2
          have hr0 : (r : Int) < (n : Int) := by omega
          have HTX := Lib.hid htx
          clear htx
          clear hA hB hC he hcs hs4 hzl hx hc hlt2
          go_wp2_with fail
          refine (HTX.out _).mono ?_
          rintro e w2 ⟨rfl, hb2⟩
          have HO2 : Hid (RTexts w.heap.size w2 u3 (tabB j l)) := OwnR.below HO.out hb2
          have HB2 := Lib.hid (blN HB.out hb2)
          clear hb2 c0 c1
          go_wp2
          go_roundw
          case rel => exact ⟨q + 1, by have := HR.out; have := HL2.out; omega, by have := HR.out; have := HL2.out; omega, by have := HR.out; go_num, by rw [HC.out], HO2, HB2⟩
          case measure => have := HR.out; simp [intOf]; omega
        · have hfull : (chunk l j).take q = chunk l j := chunk_full (by have := HPj.out; have := HN.out; omega)
          have hpad := text_cat (((chunk l j).take q).flatMap leaseB) (zeros (64 - 4 * q))
          have hpe : ((chunk l j).take q).flatMap leaseB ++ zeros (64 - 4 * q) = secB (chunk l j) := by
            unfold secB padL
            have h4 : ((chunk l j).take q).flatMap leaseB = (chunk l j).flatMap leaseB := by rw [hfull]
            have h5 : ((chunk l j).flatMap leaseB).length = 4 * q := by rw [← h4, flat_leases, chunk_len hq (by have := HPj.out; have := HN.out; omega)]
            rw [h4, h5]
          rw [hpe] at hpad
          have hone := tabB_one l j
          change tabB (j + 1) l = tabB j l ++ [ofL (secB (chunk l j))] at hone
          obtain ⟨m, hm⟩ : ∃ m, 64 - 4 * q = m := ⟨_, rfl⟩
          rw [hm] at hpad
          obtain ⟨ia, ib, ic, id, ie⟩ := info_parts infoU8
          have hmk := run_make_bytes (P := Tryz.prog) wr Tryz.underlying47 ib ic id ie m (by omega)
          have hcv := run_bytes_text (P := Tryz.prog) (wr.alloc (bytesO (zeros m) 5 (0, 0))) (src := 47) (dst := 9) (z := []) (l := zeros m) (n := m) Tryz.underlying47 Tryz.underlying5 Tryz.underlying9 (by rw [List.append_nil]; exact heapNew wr _) (zeros_length m).symm m
          have hzz : (ofL (zeros m)).size = m := by rw [ofL_size, zeros_length]
          obtain ⟨A, hA⟩ : ∃ A, ofL (((chunk l j).take q).flatMap leaseB) = A := ⟨_, rfl⟩
          obtain ⟨Z, hZ⟩ : ∃ A, ofL (zeros m) = A := ⟨_, rfl⟩
          obtain ⟨S, hS⟩ : ∃ A, ofL (secB (chunk l j)) = A := ⟨_, rfl⟩
          obtain ⟨W1, hW1⟩ : ∃ W, wr.alloc (bytesO (zeros m) 5 (0, 0)) = W := ⟨_, rfl⟩
          have HB1 : Hid (Below w.heap.size w W1) := by rw [← hW1]; exact bl1 HB.out _
          have HO1 : Hid (RTexts w.heap.size W1 u3 (tabB j l)) := by rw [← hW1]; exact OwnR.below HO.out (bl2 _)
          rw [hA] at hpad hzl ⊢
          rw [hZ] at hpad hcv hzz
          rw [hS] at hpad hone
          rw [hW1] at hmk hcv
          have e1 : IntKind.i64.wrap (64 - (A.size : Int)) = (m : Int) := by rw [IntWalk.i64_in _ (by omega)]; omega
          have hlim : ¬ 9223372036854775807 < A.size + Z.size := by omega
          have hlen : (tabB j l).length ≤ 9 := by rw [tabB_length]; have := HT.out; have := HPj.out; omega
          obtain ⟨L, hL⟩ : ∃ L, tabB j l = L := ⟨_, rfl⟩
          rw [hL] at HO1 hlen hone
          have HOne := Lib.hid hone
          have HM := Lib.hid hm
          have HR := Lib.hid hr
          clear hA hZ hS hL hW1 hpe hfull hone hm hzl hzz ia ib ic id ie HO HB
          have hnot := hlt2
          clear hlt2
          by_cases h2 : r < p + 16
          · have f2 : decide ((r : Int) < (p : Int) + 16) = true := decide_eq_true (by omega)
            have f3 : ¬ r < n := by omega
            clear hnot h2
            go_upto_region 10 with fail
            obtain ⟨ia4, ib4, ic4, id4, ie4⟩ := info_parts Tryz.infoText
            have hrow4 := HO1.out
            unfold OwnR at hrow4
            have HRow4 := Lib.hid hrow4
            clear hrow4
            have HIb4 := Lib.hid ib4
            have HIc4 := Lib.hid ic4
            have HId4 := Lib.hid id4
            have HIe4 := Lib.hid ie4
            clear ib4 ic4 id4 ie4
            go_wp2_with (at_builtin; refine wpList_append_lies _ rfl _ _ _ rfl w.heap.size 9 ia4 _ 1 16 Tryz.underlying24 HIb4.out HIc4.out HId4.out HIe4.out rfl (by decide) _ _ _ rfl (HRow4.out.alloc _) ⟨W1.heap.size, 0, none⟩ 1 1 [.string S] rfl rfl (World.news_of_block (cs := #[.string S]) (t := 9) (fr := (0, 0)) (heapNew W1 _)) (by simp [Value.oneCell']) (by omega) ?c1 ?c2 ?c3 (W1.heap.size + 1) (by simp) ?_)
            case c1 => unfold maxLen; omega
            case c2 => omega
            case c3 => have := HB1.out.size; first | (simp; done) | (simp; omega)
            intro g4 cap4 w4 hown4 hgrow4 hat4 hlt4
            have HO4 := Lib.hid (OwnR.snoc (f := stC) (x := S) hown4 rfl rfl)
            have HB4 : Hid (Below w.heap.size _ w4) := Below.grown (bl1 HB1.out _) hgrow4 (bl1 HB1.out _).size (fun q hq => (HRow4.out.lt q hq).1)
            clear hown4 hgrow4 hat4 hlt4 HRow4
            have HO5 : Hid (RTexts w.heap.size w4 (.slice (some ⟨g4, 0, none⟩) (L.length + 1) cap4) (tabB (j + 1) l)) := by rw [HOne.out]; exact HO4.out
            clear HO4
            go_wp2
            go_roundw
            case rel => exact ⟨j + 1, by have := HPj.out; have := HT.out; omega, by have := HPj.out; go_num, HO5, HB4⟩
            case measure => have := HPj.out; have := HT.out; simp [intOf]; omega
          · have f2 : decide ((r : Int) < (p : Int) + 16) = false := decide_eq_false (by omega)
            clear hnot h2
            go_upto_region 10 with fail
            obtain ⟨ia4, ib4, ic4, id4, ie4⟩ := info_parts Tryz.infoText
            have hrow4 := HO1.out
            unfold OwnR at hrow4
            have HRow4 := Lib.hid hrow4
            clear hrow4
            have HIb4 := Lib.hid ib4
            have HIc4 := Lib.hid ic4
            have HId4 := Lib.hid id4
            have HIe4 := Lib.hid ie4
            clear ib4 ic4 id4 ie4
            go_wp2_with (at_builtin; refine wpList_append_lies _ rfl _ _ _ rfl w.heap.size 9 ia4 _ 1 16 Tryz.underlying24 HIb4.out HIc4.out HId4.out HIe4.out rfl (by decide) _ _ _ rfl (HRow4.out.alloc _) ⟨W1.heap.size, 0, none⟩ 1 1 [.string S] rfl rfl (World.news_of_block (cs := #[.string S]) (t := 9) (fr := (0, 0)) (heapNew W1 _)) (by simp [Value.oneCell']) (by omega) ?c1 ?c2 ?c3 (W1.heap.size + 1) (by simp) ?_)
            case c1 => unfold maxLen; omega
            case c2 => omega
            case c3 => have := HB1.out.size; first | (simp; done) | (simp; omega)
            intro g4 cap4 w4 hown4 hgrow4 hat4 hlt4
            have HO4 := Lib.hid (OwnR.snoc (f := stC) (x := S) hown4 rfl rfl)
            have HB4 : Hid (Below w.heap.size _ w4) := Below.grown (bl1 HB1.out _) hgrow4 (bl1 HB1.out _).size (fun q hq => (HRow4.out.lt q hq).1)
            clear hown4 hgrow4 hat4 hlt4 HRow4
            have HO5 : Hid (RTexts w.heap.size w4 (.slice (some ⟨g4, 0, none⟩) (L.length + 1) cap4) (tabB (j + 1) l)) := by rw [HOne.out]; exact HO4.out
            clear HO4
            go_wp2
            go_roundw
            case rel => exact ⟨j + 1, by have := HPj.out; have := HT.out; omega, by have := HPj.out; go_num, HO5, HB4⟩
            case measure => have := HPj.out; have := HT.out; simp [intOf]; omega
    · have f1 : decide ((p : Int) < (n : Int)) = false := decide_eq_false (by omega)
      obtain rfl : j = T := by have := HT.out; omega
      obtain ⟨ad, cap, rfl⟩ := OwnR.form HO.out
      have HF := Lib.hid (HP.out _ _ HO.out HB.out)
      go_wp2
      first | exact HF.out | (go_ret; exact HF.out)
def RTEnc (g : Sp.Geom) (l : List (Int × Int)) (w : World) (e : Ending) (w' : World) : Prop :=
  ∃ v, e = .returned (.tuple #[v, .int .i64 (tableC g l)]) ∧ RTexts w.heap.size w' v (tableN g l) ∧ Below w.heap.size w w'
end
end Go.Proofs.YtgofmnhfajmbfaaGreatDoor
