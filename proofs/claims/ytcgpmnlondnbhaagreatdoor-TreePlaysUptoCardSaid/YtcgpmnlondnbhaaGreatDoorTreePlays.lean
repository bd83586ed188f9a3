/-
  The law TreePlays' walk.
-/
import Derived.Test.YtcgpmnlondnbhaaGreatDoorPlayRel
namespace Go.Proofs.YtcgpmnlondnbhaaGreatDoor
open Go Go.RowKit Txt Sp

def PlaysRel (w : World) (l : List Sp.Op) (n B r : Nat) (i : Value) (wr : World) : Prop := ∃ (k : Nat) (D : Nat → Prop) (vT vN : Value), k ≤ n ∧ k ≤ 60 ∧ i = .int .i64 (k : Int) ∧ Hid (Pair w wr B r (Sp.new.steps (l.take k)) k D vT vN)
section
set_option maxHeartbeats 8000000
set_option maxRecDepth 20000 in
theorem treePlays_walk (w : World) {v : Value} {l : List Sp.Op} (hl : Ops w v l) (hok : ∀ o ∈ l, OpOk o) (hm : MaxOk w) :
    Calls Tryz.prog 3 #[v] w fun e w' => e = .returned (.bool true) ∧ Below w.heap.size w w' := by
  have q1 := eql_tree_nil
  have HM := Lib.hid hm
  obtain ⟨ad, cap, rfl, hn1, hn2, hc⟩ := hl
  obtain ⟨n, hn⟩ : ∃ n, l.length = n := ⟨_, rfl⟩
  have HN := Lib.hid hn
  have HC := Lib.hid hc
  have HO := Lib.hid hok
  rw [hn] at hn1 ⊢
  have hn3 : n ≤ 9223372036854775807 := Nat.le_trans (Nat.le_trans hn1 hn2) (by decide)
  clear hm hc hok hn hn1 hn2
  go_enter Tryz.func3, Tryz.ntmps3
  go_wp2_with fail
  refine (new_live (Below.refl _ w) HM.out).mono ?_
  rintro e w1 ⟨B, D1, rfl, l1, -, -⟩
  have L1 := Lib.hid l1
  clear l1
  unfold ptr
  go_wp2_with fail
  refine (rnew_any (base := w.heap.size) w1 (D := D1) L1.out.low.size (fun j hj => (L1.out.from0 j hj).2)).mono ?_
  rintro e w2 ⟨r, vT, vN, rfl, hr, hb2, -⟩
  have HP2 : Hid (Pair w w2 B r Sp.new 0 D1 vT vN) := ⟨L1.out.below hb2, hr⟩
  clear hr hb2 L1
  unfold ptr
  go_wp2_with fail
  refine (treeWorks_any (w0 := w) _ HP2.out.1.low HM.out).mono ?_
  rintro e w3 ⟨rfl, hb3⟩
  have HP3 := Lib.hid (HP2.out.below hb3)
  clear hb3 HP2
  go_wp2
  go_loopw [5] (fun i wr => PlaysRel w l n B r i wr) (fun i _ => 60 - (intOf i).toNat)
  case atStart => exact ⟨0, D1, vT, vN, by omega, by omega, rfl, HP3⟩
  case round =>
    obtain ⟨k, D, vT, vN, hkn, hk60, rfl, HP⟩ := hrel
    clear HP3
    by_cases h1 : k < n
    · by_cases h2 : k < 60
      · obtain ⟨b, off, rfl, hbl, hcell⟩ := HC.out (by have := HN.out; omega)
        obtain ⟨o, ho⟩ : ∃ o, l[k]? = some o := ⟨l[k]'(by have := HN.out; omega), List.getElem?_eq_getElem _⟩
        have HOo := Lib.hid (HO.out _ (List.mem_of_getElem? ho))
        have HTk := Lib.hid (take_snoc l k _ ho)
        have hcl := fun (W : World) (hW : Below w.heap.size w W) => ops_cells (hcell k o ho) hbl hW
        obtain ⟨ok, op, ot, oo, ol, od⟩ := o
        simp only at hcl
        have HCl := Lib.hid hcl
        have HFew : Hid (Few (Sp.new.steps (l.take k))) := few_of (by rw [List.length_take]; omega)
        obtain ⟨t, ht⟩ : ∃ t, Sp.new.steps (l.take k) = t := ⟨_, rfl⟩
        have hpt := HP.out
        rw [ht] at hpt HFew
        have HPt := Lib.hid hpt
        have HOk := Lib.hid hpt.1.ok
        have HT0 := Lib.hid ht
        obtain ⟨t', c, c1, c2, c3, cd, cn, hst⟩ : ∃ t' c c1 c2 ck cd cn, t.step ⟨ok, op, ot, oo, ol, od⟩ = (t', ⟨c, c1, c2, ck, cd, cn⟩) := ⟨_, _, _, _, _, _, _, rfl⟩
        have HSt := Lib.hid hst
        have hb2 : (k : Int) < (n : Int) := by omega
        have hb3 : (0 : Int) ≤ (k : Int) := by omega
        clear hcl hcell ho hst ht hpt HP
        go_wp2_with fail
        refine (fork_live HPt.out.1 (by omega)).mono ?_
        rintro e w4 ⟨Bf, Df, rfl, lf, bf, df⟩
        have HF4 := Lib.hid lf
        have HB4 := Lib.hid bf
        have HD4 := Lib.hid df
        have HRf : Hid (RefAt w.heap.size w4 Df r t vT vN) := HPt.out.2.away bf (fun j hj => ⟨df j hj, (lf.from0 j hj).2⟩)
        clear lf bf df
        unfold ptr
        go_wp2_with fail
        refine (rfork_any HRf.out).mono ?_
        rintro e w5 ⟨g, vT5, vN5, rfl, hr5, hb5, hg5⟩
        have HK : Hid (Forks w wr w5 Bf g t k Df vT5 vN5) := forks_new HPt.out HF4.out HB4.out HD4.out hr5 hb5 hg5
        have HP5 := Lib.hid (HPt.out.below (below_next HB4.out hb5))
        have HLr := Lib.hid HPt.out.1.low
        have HB5 := Lib.hid HK.out.2.2.2
        clear hr5 hb5 hg5 HRf HF4 HB4 HD4
        unfold ptr
        go_upto_region 10 with fail
        go_cut [49] (fun s9 wx => PlayCut w wr Bf t' k s9 wx)
        case first =>
          go_region_held3 (fun W => W.cell? ⟨b, off + k * 6, none⟩ = some (.int .i64 ok) ∧ W.cell? ⟨b, off + k * 6 + 1, none⟩ = some (.string op) ∧ W.cell? ⟨b, off + k * 6 + 2, none⟩ = some (.string ot) ∧ W.cell? ⟨b, off + k * 6 + 3, none⟩ = some (.int .i64 oo) ∧ W.cell? ⟨b, off + k * 6 + 4, none⟩ = some (.int .i64 ol) ∧ W.cell? ⟨b, off + k * 6 + 5, none⟩ = some (.string od))
            ((refine HCl.out _ (below_next HLr.out ?_); repeat' first | with_reducible exact HB5.out | with_reducible exact HB6.out | with_reducible exact HB7.out | with_reducible exact HB8.out | with_reducible refine below_al ?_ _ | with_reducible refine below_dr ?_))
            (first
              | (go_at_call 12
                 refine (do_known3 HSt.out (HK.out.1.1.below (by repeat' first | with_reducible exact Below.refl _ _ | with_reducible refine below_al ?_ _ | with_reducible refine below_dr ?_)) HOo.out (by omega)).mono ?_
                 rintro e w6 ⟨ad6, cap6, m6, Df6, rfl, x6, hm6, -, lf6, t6, d6⟩
                 have HK6 := Lib.hid ((HK.out.below (by repeat' first | with_reducible exact Below.refl _ _ | with_reducible refine below_al ?_ _ | with_reducible refine below_dr ?_)).tree lf6 t6 d6)
                 have HB6 := Lib.hid HK6.out.2.2.2.2
                 have HX6 := Lib.hid x6
                 have HM6 : Hid (w5.heap.size ≤ m6) := Nat.le_trans (show w5.heap.size ≤ _ from ((by repeat' first | with_reducible exact Below.refl _ _ | with_reducible refine below_al ?_ _ | with_reducible refine below_dr ?_) : Below w5.heap.size w5 _).size) hm6
                 clear x6 hm6 lf6 t6 d6
                 simp only)
              | (go_at_call 13
                 refine (rdo_known HSt.out (rdo_any (HK6.out.2.1.below (by repeat' first | with_reducible exact Below.refl _ _ | with_reducible refine below_al ?_ _ | with_reducible refine below_dr ?_)) HOk.out HFew.out ⟨ok, op, ot, oo, ol, od⟩ HOo.out)).mono ?_
                 rintro e w7 ⟨ad7, cap7, rfl, x7, vT7, vN7, hr7, ht7⟩
                 have hg5 := (Array.getElem?_eq_some_iff.1 HK.out.1.2.obj).1
                 have hb67 := ((by repeat' first | with_reducible exact Below.refl _ _ | with_reducible refine below_al ?_ _ | with_reducible refine below_dr ?_) : Below w6.heap.size w6 _)
                 have HX67 := Lib.hid (own_turn (HX6.out.below hb67) ht7 (fun j hj => by have := HM6.out; omega))
                 have HC7 : Hid (∀ wz, Below w7.heap.size w7 wz → PlayCut w wr Bf t' k (.bool false) wz) := fun wz hz => play_cut (g := g) (by refine ⟨HK6.out.1.below hb67, HK6.out.2.1.below hb67, HK6.out.2.2.1, HK6.out.2.2.2.1, below_next HK6.out.2.2.2.2 hb67⟩) ⟨_, _, hr7, ht7⟩ hz
                 have HB7 : Hid (Below wr.heap.size wr w7) := (below_next HK6.out.2.2.2.2 hb67).trans (ht7.below (fun j hj => by rw [hj]; exact HK6.out.2.2.2.1) (below_next HK6.out.2.2.2.2 hb67).size)
                 have HX7 := Lib.hid x7
                 clear x7 hr7 ht7 hb67 hg5
                 simp only)
              | (go_at_call 11
                 refine (sameAns_yes _ (a := ⟨c, c1, c2, c3, cd, cn⟩) ⟨_, rfl, HX67.out.texts⟩ ⟨_, rfl, HX7.out.texts⟩).mono ?_
                 rintro e w8 ⟨rfl, hb8⟩
                 have HB8 : Hid (Below wr.heap.size wr w8) := below_next HB7.out hb8
                 have HC8 := Lib.hid (HC7.out _ hb8)
                 clear hb8
                 simp only))
          all_goals
            go_wp2_with fail
            go_meet
            case rel => exact HC8.out
        case rest =>
        obtain ⟨rfl, Dg, lg, dg, bg⟩ := hcut
        have HG := Lib.hid lg
        have HPc := Lib.hid (HPt.out.below bg)
        have HDg := Lib.hid dg
        have HBg := Lib.hid bg
        clear lg dg bg HK HP5
        go_wp2_with fail
        refine (do_live HG.out ⟨2, ⟨#[47, 102, 111, 114, 107]⟩, ⟨#[]⟩, 0, 0, ⟨#[]⟩⟩ (small_ok (by decide) (by decide) (by decide) (by decide) (by decide) (by decide)) (by omega)).mono ?_
        rintro e w9 ⟨v9, Dh, m9, rfl, -, lh, th, -, -, -⟩
        have HP9 : Hid (Pair w w9 B r t k D vT vN) := HPt.out.below (HBg.out.trans (th.below HDg.out HBg.out.size))
        clear lh th HG HPc HDg HBg
        go_upto_region 13 with fail
        go_cut [8] (fun s8 wx => PlayAns w wx B r t t' k vT vN ⟨c, c1, c2, c3, cd, cn⟩ s8)
        case first =>
          obtain ⟨g0, g1, g2, g3, g4, g5⟩ := HCl.out w9 HP9.out.1.low
          go_wp2_with fail
          refine (do_known3 HSt.out HP9.out.1 HOo.out (by omega)).mono ?_
          rintro e w10 ⟨ad10, cap10, m10, D10, rfl, x10, hm10, hlt10, l10, t10, d10⟩
          have HE : Hid (PlayAns w _ B r t t' k vT vN ⟨c, c1, c2, c3, cd, cn⟩ (.pointer (some ⟨w10.heap.size, 0, none⟩))) := play_alloc_new HP9.out x10 hm10 hlt10 l10 t10 d10
          clear x10 hm10 hlt10 l10 t10 d10 g0 g1 g2 g3 g4 g5
          go_wp2_with fail
          go_meet
          case rel => exact HE.out
        case rest =>
        obtain ⟨n8, ad8, cap8, m8, D8, K8, rfl, l8, r8, dk8, kn8, own8, hn8, x8, hrm8, hnr8⟩ := hcut
        have L8 := Lib.hid l8
        have R8 := Lib.hid r8
        have DK8 := Lib.hid dk8
        have OWN8 := Lib.hid own8
        have N8 := Lib.hid hn8
        have X8 := Lib.hid x8
        have RM8 := Lib.hid hrm8
        have NR8 := Lib.hid hnr8
        have KN8 := Lib.hid kn8
        have HSa : Hid (∀ W, Turn (fun j => j = r) wc W → (W.cell? ⟨n8, 0, none⟩ = some (.int .i64 c) ∧ W.cell? ⟨n8, 1, none⟩ = some (.int .i64 c1) ∧ W.cell? ⟨n8, 2, none⟩ = some (.int .i64 c2) ∧ W.cell? ⟨n8, 3, none⟩ = some (.int .i64 c3) ∧ W.cell? ⟨n8, 4, none⟩ = some (.string cd) ∧ W.cell? ⟨n8, 5, none⟩ = some (.slice ad8 cn.length cap8)) ∧ W.cell? ⟨b, off + k * 6, none⟩ = some (.int .i64 ok) ∧ W.cell? ⟨b, off + k * 6 + 1, none⟩ = some (.string op) ∧ W.cell? ⟨b, off + k * 6 + 2, none⟩ = some (.string ot) ∧ W.cell? ⟨b, off + k * 6 + 3, none⟩ = some (.int .i64 oo) ∧ W.cell? ⟨b, off + k * 6 + 4, none⟩ = some (.int .i64 ol) ∧ W.cell? ⟨b, off + k * 6 + 5, none⟩ = some (.string od)) := fun W hW => by
          have hx := hW.heap N8.out (fun e => NR8.out e)
          exact ⟨⟨cell_of_heap hx rfl, cell_of_heap hx rfl, cell_of_heap hx rfl, cell_of_heap hx rfl, cell_of_heap hx rfl, cell_of_heap hx rfl⟩, HCl.out W (L8.out.low.trans (hW.below (fun j hj => by rw [hj]; exact R8.out.low) L8.out.low.size))⟩
        clear l8 r8 dk8 own8 hn8 x8 hrm8 hnr8 kn8
        have HT8 : Hid (Turn (fun j => j = r) wc wc) := Turn.refl _ _
        go_upto_region 14 with fail
        go_region_held3 (fun W => (W.cell? ⟨n8, 0, none⟩ = some (.int .i64 c) ∧ W.cell? ⟨n8, 1, none⟩ = some (.int .i64 c1) ∧ W.cell? ⟨n8, 2, none⟩ = some (.int .i64 c2) ∧ W.cell? ⟨n8, 3, none⟩ = some (.int .i64 c3) ∧ W.cell? ⟨n8, 4, none⟩ = some (.string cd) ∧ W.cell? ⟨n8, 5, none⟩ = some (.slice ad8 cn.length cap8)) ∧ W.cell? ⟨b, off + k * 6, none⟩ = some (.int .i64 ok) ∧ W.cell? ⟨b, off + k * 6 + 1, none⟩ = some (.string op) ∧ W.cell? ⟨b, off + k * 6 + 2, none⟩ = some (.string ot) ∧ W.cell? ⟨b, off + k * 6 + 3, none⟩ = some (.int .i64 oo) ∧ W.cell? ⟨b, off + k * 6 + 4, none⟩ = some (.int .i64 ol) ∧ W.cell? ⟨b, off + k * 6 + 5, none⟩ = some (.string od))
          ((refine HSa.out _ ?_; first | with_reducible exact HT8.out | with_reducible exact HT11.out | with_reducible exact HT12.out | with_reducible exact turn_dr HT8.out | with_reducible exact turn_dr HT11.out | with_reducible exact turn_dr HT12.out))
          (first
            | (go_at_call 13
               refine (rdo_known HSt.out (rdo_any (R8.out.below (below_dr (Below.refl _ _))) HOk.out HFew.out ⟨ok, op, ot, oo, ol, od⟩ HOo.out)).mono ?_
               rintro e w11 ⟨ad11, cap11, rfl, x11, vT11, vN11, hr11, ht11⟩
               have HT11 : Hid (Turn (fun j => j = r) wc w11) := turn_of_dr ht11
               have HR11 := Lib.hid hr11
               have HX11 := Lib.hid x11
               have HX811 := Lib.hid (own_turn X8.out HT11.out (fun j hj => by have := RM8.out; omega))
               have HL11 := Lib.hid (L8.out.besideL HT11.out (fun j hj e => R8.out.apart.1 (by rw [← e]; exact DK8.out j hj)) (fun j hj => by rw [hj]; exact R8.out.low))
               clear x11 hr11 ht11
               simp only)
            | (go_at_call 11
               refine (sameAns_yes _ (a := ⟨c, c1, c2, c3, cd, cn⟩) ⟨_, rfl, HX811.out.texts⟩ ⟨_, rfl, HX11.out.texts⟩).mono ?_
               rintro e w12 ⟨rfl, hb12⟩
               have HT12 : Hid (Turn (fun j => j = r) wc w12) := turn_below HT11.out hb12
               have HB12 := Lib.hid hb12
               clear hb12
               simp only))
        all_goals
          obtain ⟨⟨z0, z1, z2, z3, z4, z5⟩, -⟩ := HSa.out _ HT12.out
          go_wp2_with fail
          refine (spoil_any (HX811.out.below HB12.out)).mono ?_
          rintro e w13 ⟨rfl, ht13⟩
          have HP13 : Hid (Pair w w13 B r t' (k + 1) D8 vT11 vN11) := play_spoil HL11.out HR11.out DK8.out (fun j hj => ⟨(OWN8.out j hj).1, (OWN8.out j hj).2.1, (OWN8.out j hj).2.2.1⟩) HB12.out ht13
          clear ht13 z0 z1 z2 z3 z4 z5
          go_wp2_with fail
          refine (paths_live HP13.out.1 (by omega)).mono ?_
          rintro e w14 ⟨v14, rfl, ho14, hb14⟩
          have HP14 := Lib.hid (HP13.out.below hb14)
          have HO14 := Lib.hid ho14
          have HB14 := Lib.hid hb14
          clear ho14 hb14
          go_wp2_with fail
          refine (rpaths_any HP14.out.2 HP14.out.1.ok (few_next hk60 HT0.out HSt.out)).mono ?_
          rintro e w15 ⟨v15, rfl, ho15, hb15⟩
          have HP15 := Lib.hid (HP14.out.below hb15)
          have HO15 := Lib.hid ho15
          have HOa15 := Lib.hid (HO14.out.below hb15)
          have HB15 := Lib.hid hb15
          clear ho15 hb15
          go_wp2_with fail
          refine (sameTexts_yes _ _ _ _ HOa15.out.texts HO15.out.texts).mono ?_
          rintro e w16 ⟨rfl, hb16⟩
          have HOa16 := Lib.hid (HOa15.out.below hb16)
          have HP16 := Lib.hid (HP15.out.below hb16)
          have HB16 := Lib.hid (below_next (below_next HB14.out HB15.out) hb16)
          clear hb16
          go_wp2_with fail
          refine (spoil_any HOa16.out).mono ?_
          rintro e w17 ⟨rfl, ht17⟩
          have HP17 : Hid (Pair w w17 B r (Sp.new.steps (l.take (k + 1))) (k + 1) D8 vT11 vN11) := by
            have hb17 := HB16.out.trans (ht17.below (fun j hj => (own_block HOa16.out hj).1) HB16.out.size)
            show Pair _ _ _ _ _ _ _ _ _
            rw [HTk.out, steps_snoc, HT0.out, step_fst HSt.out]
            exact HP13.out.below hb17
          clear ht17
          go_wp2
          go_roundw
          case rel => exact ⟨k + 1, D8, vT11, vN11, by omega, by omega, by go_num, HP17⟩
          case measure => simp [intOf]; omega
      · have HL9 := Lib.hid HP.out.1.low
        go_wp2
        go_ret
        exact ⟨rfl, HL9.out⟩
    · have HL9 := Lib.hid HP.out.1.low
      go_wp2
      go_ret
      exact ⟨rfl, HL9.out⟩
end
end Go.Proofs.YtcgpmnlondnbhaaGreatDoor
