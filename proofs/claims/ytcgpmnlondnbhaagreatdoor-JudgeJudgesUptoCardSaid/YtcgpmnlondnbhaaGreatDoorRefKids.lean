/-
  The reference's walks: kids.
-/
import Derived.Test.YtcgpmnlondnbhaaGreatDoorRefPut
import Derived.Test.YtcgpmnlondnbhaaGreatDoorTreeB
namespace Go.Proofs.YtcgpmnlondnbhaaGreatDoor
open Go Go.RowKit Txt Sp

/-- The texts that a round of kids meets. -/
inductive KidText (p x : List ByteArray) (q s : ByteArray) : Prop where
  | short (h1 : s.size ≤ q.size + 1) (h2 : kidOf p x = none)
  | other (h1 : q.size + 1 < s.size) (h2 : ((s.extract 0 (q.size + 1)).toList == (q ++ (⟨#[47]⟩ : ByteArray)).toList) = false) (h3 : kidOf p x = none)
  | deep (h1 : q.size + 1 < s.size) (h2 : ((s.extract 0 (q.size + 1)).toList == (q ++ (⟨#[47]⟩ : ByteArray)).toList) = true) (h3 : (s.extract (q.size + 1) s.size).data.toList.contains 47 = true) (h4 : kidOf p x = none)
  | kid (h1 : q.size + 1 < s.size) (h2 : ((s.extract 0 (q.size + 1)).toList == (q ++ (⟨#[47]⟩ : ByteArray)).toList) = true) (h3 : (s.extract (q.size + 1) s.size).data.toList.contains 47 = false) (h4 : kidOf p x = some (s.extract (q.size + 1) s.size))
theorem kidText {p x : List ByteArray} {q s : ByteArray} (hp : Sp.Good p) (hx : Sp.Good x) (hq : q = ofL (joinL p)) (hs : s = ofL (joinL x)) : KidText p x q s := by
  have hqs : q.size = (joinL p).length := by rw [hq, Lib.size_eq, ofL_data]
  have hss : s.size = (joinL x).length := by rw [hs, Lib.size_eq, ofL_data]
  have hsd : s.data.toList = joinL x := by rw [hs, ofL_data]
  have hqd : q.data.toList = joinL p := by rw [hq, ofL_data]
  have hqp : (q ++ (⟨#[47]⟩ : ByteArray)).data.toList = joinL p ++ [47] := by
    rw [show (q ++ (⟨#[47]⟩ : ByteArray)).data.toList = q.data.toList ++ [47] by simp, hqd]
  have hpre : (s.extract 0 (q.size + 1)).data.toList = (joinL x).take ((joinL p).length + 1) := by rw [Go.Proofs.YtcgpmnlondnbhaaGreatDoor.extract_data, hsd, hqs, List.drop_zero, Nat.sub_zero]
  have hrest : (s.extract (q.size + 1) s.size).data.toList = (joinL x).drop ((joinL p).length + 1) := by
    rw [Go.Proofs.YtcgpmnlondnbhaaGreatDoor.extract_data, hsd, hqs, hss, List.take_of_length_le (by rw [List.length_drop]; omega)]
  have hover : ∀ r, joinL x = joinL p ++ 47 :: r → (joinL x).take ((joinL p).length + 1) = joinL p ++ [47] ∧ (joinL x).drop ((joinL p).length + 1) = r := fun r hr => by
    rw [hr]
    refine ⟨take_over _ _ _, ?_⟩
    rw [show joinL p ++ 47 :: r = (joinL p ++ [47]) ++ r by simp, List.drop_left']
    simp
  have hyes : ∀ r, joinL x = joinL p ++ 47 :: r → ((s.extract 0 (q.size + 1)).toList == (q ++ (⟨#[47]⟩ : ByteArray)).toList) = true := fun r hr => by
    rw [text_eq]
    exact decide_eq_true (Txt.ext (by rw [hpre, hqp, (hover r hr).1]))
  rcases kidCase hp hx with ⟨h1, h2⟩ | ⟨h1, h2, h3⟩ | ⟨r, h1, h2, h3, h4⟩ | ⟨r, h1, h2, h3, h4⟩
  · exact .short (by omega) h2
  · refine .other (by omega) ?_ h3
    rw [text_eq]
    refine decide_eq_false fun e => h2 ?_
    have h5 : (s.extract 0 (q.size + 1)).data.toList = (q ++ (⟨#[47]⟩ : ByteArray)).data.toList := congrArg (fun z : ByteArray => z.data.toList) e
    rwa [hpre, hqp] at h5
  · exact .deep (by omega) (hyes r h2) (by rw [hrest, (hover r h2).2]; exact h3) h4
  · refine .kid (by omega) (hyes r h2) (by rw [hrest, (hover r h2).2]; exact h3) ?_
    rw [h4]
    exact congrArg some (Txt.ext (by rw [hrest, (hover r h2).2, ofL_data]))

def KidsRel (w : World) (t : Sp.Tree) (p : List ByteArray) (n : Nat) (out i : Value) (wr : World) : Prop := ∃ (k : Nat), k ≤ n ∧ i = .int .i64 (k : Int) ∧ Hid (OwnTexts w.heap.size wr out (kidsTo t p k)) ∧ Hid (Below w.heap.size w wr)
section
set_option maxHeartbeats 4000000
variable {base : Nat} {w : World} {D : Nat → Prop} {r : Nat} {t : Sp.Tree} {vT vN : Value}
set_option maxRecDepth 20000 in
theorem rkids_any (h : RefAt base w D r t vT vN) (hok : t.Ok) (hf : Few t) {path : ByteArray} {p : List ByteArray} (hp : Sp.Good p) (hpath : (path = ofL [47] ∧ p = []) ∨ (path = ofL (joinL p) ∧ p ≠ [])) (hps : path.size ≤ 4000000000) :
    Calls Tryz.prog 64 #[ptr r, .string path] w (PutPost (t.kids p) w) := by
  have HR := Lib.hid h
  have HOK := Lib.hid hok
  have HF := Lib.hid hf
  have HP := Lib.hid hp
  obtain ⟨n, hn⟩ : ∃ n, t.names.length = n := ⟨_, rfl⟩
  have hn6 : n ≤ 1000000 := by rw [← hn]; exact hf.names
  have HN := Lib.hid hn
  obtain ⟨adN, capN, rfl, hNc, hNm⟩ := row_shape h.names
  obtain ⟨_, r1, _⟩ := h.cells
  rw [hn] at r1
  clear h hok hf hp hn hNc hNm
  unfold ptr
  rcases hpath with ⟨rfl, hp0⟩ | ⟨rfl, hne⟩
  · have e0 : ((ofL [47]).toList == [47]) = true := by rw [Lib.toList_data, ofL_data]; rfl
    obtain ⟨p1, hp1⟩ : ∃ p1, ofL [47] = p1 := ⟨_, rfl⟩
    rw [hp1] at e0 ⊢
    clear hp1 hps
    go_enter Tryz.func64, Tryz.ntmps64
    go_wp2
    generalize hq : (⟨#[]⟩ : ByteArray) = q
    have HQ : Hid (q = ofL (joinL p)) := by show q = _; rw [hp0]; exact hq.symm
    have hqs : q.size ≤ 4000000000 := by rw [← hq]; decide
    clear hq hp0
    go_loopw [5, 6] (fun out i wr => KidsRel w t p n out i wr) (fun _ i _ => n - (intOf i).toNat)
    case atStart => exact ⟨0, Nat.zero_le _, rfl, OwnTexts.void _ _, Below.refl _ _⟩
    case round =>
      obtain ⟨k, hk, rfl, HO, HB⟩ := hrel
      obtain ⟨r0, r1, _⟩ := (HR.out.below HB.out).cells
      by_cases hlt : k < n
      · obtain ⟨x, hx⟩ : ∃ x, t.names[k]? = some x := ⟨t.names[k]'(by have := HN.out; omega), List.getElem?_eq_getElem _⟩
        obtain ⟨gN, cN, hvN, _, _⟩ := (HR.out.below HB.out).names.form (by have := HN.out; omega)
        have hrow := (HR.out.below HB.out).names
        rw [hvN] at hrow r1
        obtain ⟨n0, _⟩ := hrow.at' hx
        rw [HN.out] at r1
        obtain ⟨s, hs⟩ : ∃ s, ofL (joinL x.1) = s := ⟨_, rfl⟩
        rw [hs] at n0
        have hsz : s.size ≤ 14000000 := by
          rw [← hs]
          exact Nat.le_trans (path_size HOK.out (List.mem_of_getElem? hx)) (by have := HF.out.names; omega)
        have HX := Lib.hid hx
        have HKT := Lib.hid (kidText HP.out (HOK.out.good x.1 x.2 (List.mem_of_getElem? hx)) HQ.out hs.symm)
        clear hs hx hrow hvN
        rcases HKT.out with ⟨h1, h2⟩ | ⟨h1, h2, h3⟩ | ⟨h1, h2, h3, h4⟩ | ⟨h1, h2, h3, h4⟩
        · have HE := Lib.hid (kidsTo_none HX.out h2)
          clear h2
          go_wp2
          go_roundw
          case rel => exact ⟨k + 1, by omega, by go_num, (by rw [HE.out]; exact HO), HB⟩
          case measure => simp [intOf]; omega
        · have HE := Lib.hid (kidsTo_none HX.out h3)
          have h2' : (!((s.extract 0 (q.size + 1)).toList == (q ++ (⟨#[47]⟩ : ByteArray)).toList)) = true := by rw [h2]; rfl
          clear h3
          go_wp2
          go_roundw
          case rel => exact ⟨k + 1, by omega, by go_num, (by rw [HE.out]; exact HO), HB⟩
          case measure => simp [intOf]; omega
        · obtain ⟨R, hR⟩ : ∃ R, s.extract (q.size + 1) s.size = R := ⟨_, rfl⟩
          rw [hR] at h3
          try rw [hR] at h4
          have hRs : R.size ≤ 14000000 := by
            have h5 : R.size ≤ s.size := by
              rw [← hR, Lib.size_eq, Lib.size_eq s, Go.Proofs.YtcgpmnlondnbhaaGreatDoor.extract_data, List.length_take, List.length_drop]
              omega
            omega
          have HE := Lib.hid (kidsTo_none HX.out h4)
          have H3 := Lib.hid h3
          have h2' : (!((s.extract 0 (q.size + 1)).toList == (q ++ (⟨#[47]⟩ : ByteArray)).toList)) = false := by rw [h2]; rfl
          clear h3 h4
          go_wp2
          go_loop [9, 10] (fun d j => ∃ (m : Nat) (b : Bool), m ≤ R.size ∧ j = .int .i64 m ∧ d = .bool b ∧ Hid (b = (R.data.toList.take m).contains 47)) (fun _ j => R.size - (intOf j).toNat)
          case atStart => exact ⟨0, false, Nat.zero_le _, rfl, rfl, rfl⟩
          case round =>
            obtain ⟨m, b, hm, rfl, rfl, HBb⟩ := hrel
            by_cases hml : m < R.size
            · have HA := Lib.hid (at_data R m hml)
              cases b with
              | true =>
                have HBn : Hid (true = (R.data.toList.take (m + 1)).contains 47) := by
                  show true = _
                  rw [contains_snoc _ _ _ _ HA.out, ← HBb.out]
                  rfl
                go_wp2
                go_round
                case rel => exact ⟨m + 1, true, by omega, by go_num, rfl, HBn⟩
                case measure => simp [intOf]; omega
              | false =>
                have e47 := u8_eq (R[m]'hml) 47 (by decide)
                by_cases c47 : (R[m]'hml) = 47
                · have e47' : (((R[m]'hml).toNat : Int) == 47) = true := by rw [c47]; rfl
                  have HBn : Hid (true = (R.data.toList.take (m + 1)).contains 47) := by
                    show true = _
                    rw [contains_snoc _ _ _ _ HA.out, c47, ← HBb.out]
                    rfl
                  clear e47 c47
                  go_wp2
                  go_round
                  case rel => exact ⟨m + 1, true, by omega, by go_num, rfl, HBn⟩
                  case measure => simp [intOf]; omega
                · have e47' : (((R[m]'hml).toNat : Int) == 47) = false := e47.trans (decide_eq_false c47)
                  have HBn : Hid (false = (R.data.toList.take (m + 1)).contains 47) := by
                    show false = _
                    rw [contains_snoc _ _ _ _ HA.out, ← HBb.out, decide_eq_false (Ne.symm c47)]
                    rfl
                  clear e47 c47
                  go_wp2
                  go_round
                  case rel => exact ⟨m + 1, false, by omega, by go_num, rfl, HBn⟩
                  case measure => simp [intOf]; omega
            · have hb : b = true := by
                rw [HBb.out, List.take_of_length_le (by rw [← Lib.size_eq]; omega)]
                exact H3.out
              subst hb
              go_wp2
              go_roundw
              case rel => exact ⟨k + 1, by omega, by go_num, (by rw [HE.out]; exact HO), HB⟩
              case measure => simp [intOf]; omega
        · obtain ⟨R, hR⟩ : ∃ R, s.extract (q.size + 1) s.size = R := ⟨_, rfl⟩
          rw [hR] at h3
          try rw [hR] at h4
          have hRs : R.size ≤ 14000000 := by
            have h5 : R.size ≤ s.size := by
              rw [← hR, Lib.size_eq, Lib.size_eq s, Go.Proofs.YtcgpmnlondnbhaaGreatDoor.extract_data, List.length_take, List.length_drop]
              omega
            omega
          have HE := Lib.hid (kidsTo_some HX.out h4)
          have H3 := Lib.hid h3
          have h2' : (!((s.extract 0 (q.size + 1)).toList == (q ++ (⟨#[47]⟩ : ByteArray)).toList)) = false := by rw [h2]; rfl
          clear h3 h4
          go_wp2
          go_loop [9, 10] (fun d j => ∃ (m : Nat) (b : Bool), m ≤ R.size ∧ j = .int .i64 m ∧ d = .bool b ∧ Hid (b = (R.data.toList.take m).contains 47)) (fun _ j => R.size - (intOf j).toNat)
          case atStart => exact ⟨0, false, Nat.zero_le _, rfl, rfl, rfl⟩
          case round =>
            obtain ⟨m, b, hm, rfl, rfl, HBb⟩ := hrel
            by_cases hml : m < R.size
            · have HA := Lib.hid (at_data R m hml)
              cases b with
              | true =>
                have HBn : Hid (true = (R.data.toList.take (m + 1)).contains 47) := by
                  show true = _
                  rw [contains_snoc _ _ _ _ HA.out, ← HBb.out]
                  rfl
                go_wp2
                go_round
                case rel => exact ⟨m + 1, true, by omega, by go_num, rfl, HBn⟩
                case measure => simp [intOf]; omega
              | false =>
                have e47 := u8_eq (R[m]'hml) 47 (by decide)
                by_cases c47 : (R[m]'hml) = 47
                · have e47' : (((R[m]'hml).toNat : Int) == 47) = true := by rw [c47]; rfl
                  have HBn : Hid (true = (R.data.toList.take (m + 1)).contains 47) := by
                    show true = _
                    rw [contains_snoc _ _ _ _ HA.out, c47, ← HBb.out]
                    rfl
                  clear e47 c47
                  go_wp2
                  go_round
                  case rel => exact ⟨m + 1, true, by omega, by go_num, rfl, HBn⟩
                  case measure => simp [intOf]; omega
                · have e47' : (((R[m]'hml).toNat : Int) == 47) = false := e47.trans (decide_eq_false c47)
                  have HBn : Hid (false = (R.data.toList.take (m + 1)).contains 47) := by
                    show false = _
                    rw [contains_snoc _ _ _ _ HA.out, ← HBb.out, decide_eq_false (Ne.symm c47)]
                    rfl
                  clear e47 c47
                  go_wp2
                  go_round
                  case rel => exact ⟨m + 1, false, by omega, by go_num, rfl, HBn⟩
                  case measure => simp [intOf]; omega
            · have hb : b = false := by
                rw [HBb.out, List.take_of_length_le (by rw [← Lib.size_eq]; omega)]
                exact H3.out
              subst hb
              have hkl : (kidsTo t p k).length ≤ 2000000 := Nat.le_trans (kidsTo_length p k) (by have := HF.out.names; omega)
              go_wp2_with fail
              refine (rput_any HO.out R hkl).mono ?_
              rintro e w2 ⟨v2, rfl, ho2, hb2⟩
              have HO2 : Hid (OwnTexts w.heap.size w2 v2 (kidsTo t p (k + 1))) := by
                show OwnTexts _ _ _ _
                rw [HE.out]
                exact ho2.mono HB.out.size
              have HB2 := Lib.hid (below_next HB.out hb2)
              clear ho2 hb2
              go_wp2
              go_roundw
              case rel => exact ⟨k + 1, by omega, by go_num, HO2, HB2⟩
              case measure => simp [intOf]; omega
      · have HFin : Hid (kidsTo t p k = t.kids p) := kidsTo_all p (by have := HN.out; omega)
        have HOF := HO.out
        rw [HFin.out] at HOF
        have HOF2 := Lib.hid HOF
        rw [HN.out] at r1
        clear HOF
        go_wp2
        go_ret
        exact ⟨_, rfl, HOF2.out, HB.out⟩
  · obtain ⟨q, hq⟩ : ∃ q, ofL (joinL p) = q := ⟨_, rfl⟩
    rw [hq] at hps
    have HQ : Hid (q = ofL (joinL p)) := hq.symm
    have hqs : q.size ≤ 4000000000 := hps
    have e0 : (q.toList == [47]) = false := by
      have := path_not_root HP.out hne
      rw [hq] at this
      have h5 := text_eq q (ofL [47])
      rw [decide_eq_false this] at h5
      rw [← h5]
      congr 1
      rw [Lib.toList_data, ofL_data]
    rw [hq]
    clear hq hps hne
    go_enter Tryz.func64, Tryz.ntmps64
    go_wp2
    go_loopw [5, 6] (fun out i wr => KidsRel w t p n out i wr) (fun _ i _ => n - (intOf i).toNat)
    case atStart => exact ⟨0, Nat.zero_le _, rfl, OwnTexts.void _ _, Below.refl _ _⟩
    case round =>
      obtain ⟨k, hk, rfl, HO, HB⟩ := hrel
      obtain ⟨r0, r1, _⟩ := (HR.out.below HB.out).cells
      by_cases hlt : k < n
      · obtain ⟨x, hx⟩ : ∃ x, t.names[k]? = some x := ⟨t.names[k]'(by have := HN.out; omega), List.getElem?_eq_getElem _⟩
        obtain ⟨gN, cN, hvN, _, _⟩ := (HR.out.below HB.out).names.form (by have := HN.out; omega)
        have hrow := (HR.out.below HB.out).names
        rw [hvN] at hrow r1
        obtain ⟨n0, _⟩ := hrow.at' hx
        rw [HN.out] at r1
        obtain ⟨s, hs⟩ : ∃ s, ofL (joinL x.1) = s := ⟨_, rfl⟩
        rw [hs] at n0
        have hsz : s.size ≤ 14000000 := by
          rw [← hs]
          exact Nat.le_trans (path_size HOK.out (List.mem_of_getElem? hx)) (by have := HF.out.names; omega)
        have HX := Lib.hid hx
        have HKT := Lib.hid (kidText HP.out (HOK.out.good x.1 x.2 (List.mem_of_getElem? hx)) HQ.out hs.symm)
        clear hs hx hrow hvN
        rcases HKT.out with ⟨h1, h2⟩ | ⟨h1, h2, h3⟩ | ⟨h1, h2, h3, h4⟩ | ⟨h1, h2, h3, h4⟩
        · have HE := Lib.hid (kidsTo_none HX.out h2)
          clear h2
          go_wp2
          go_roundw
          case rel => exact ⟨k + 1, by omega, by go_num, (by rw [HE.out]; exact HO), HB⟩
          case measure => simp [intOf]; omega
        · have HE := Lib.hid (kidsTo_none HX.out h3)
          have h2' : (!((s.extract 0 (q.size + 1)).toList == (q ++ (⟨#[47]⟩ : ByteArray)).toList)) = true := by rw [h2]; rfl
          clear h3
          go_wp2
          go_roundw
          case rel => exact ⟨k + 1, by omega, by go_num, (by rw [HE.out]; exact HO), HB⟩
          case measure => simp [intOf]; omega
        · obtain ⟨R, hR⟩ : ∃ R, s.extract (q.size + 1) s.size = R := ⟨_, rfl⟩
          rw [hR] at h3
          try rw [hR] at h4
          have hRs : R.size ≤ 14000000 := by
            have h5 : R.size ≤ s.size := by
              rw [← hR, Lib.size_eq, Lib.size_eq s, Go.Proofs.YtcgpmnlondnbhaaGreatDoor.extract_data, List.length_take, List.length_drop]
              omega
            omega
          have HE := Lib.hid (kidsTo_none HX.out h4)
          have H3 := Lib.hid h3
          have h2' : (!((s.extract 0 (q.size + 1)).toList == (q ++ (⟨#[47]⟩ : ByteArray)).toList)) = false := by rw [h2]; rfl
          clear h3 h4
          go_wp2
          go_loop [9, 10] (fun d j => ∃ (m : Nat) (b : Bool), m ≤ R.size ∧ j = .int .i64 m ∧ d = .bool b ∧ Hid (b = (R.data.toList.take m).contains 47)) (fun _ j => R.size - (intOf j).toNat)
          case atStart => exact ⟨0, false, Nat.zero_le _, rfl, rfl, rfl⟩
          case round =>
            obtain ⟨m, b, hm, rfl, rfl, HBb⟩ := hrel
            by_cases hml : m < R.size
            · have HA := Lib.hid (at_data R m hml)
              cases b with
              | true =>
                have HBn : Hid (true = (R.data.toList.take (m + 1)).contains 47) := by
                  show true = _
                  rw [contains_snoc _ _ _ _ HA.out, ← HBb.out]
                  rfl
                go_wp2
                go_round
                case rel => exact ⟨m + 1, true, by omega, by go_num, rfl, HBn⟩
                case measure => simp [intOf]; omega
              | false =>
                have e47 := u8_eq (R[m]'hml) 47 (by decide)
                by_cases c47 : (R[m]'hml) = 47
                · have e47' : (((R[m]'hml).toNat : Int) == 47) = true := by rw [c47]; rfl
                  have HBn : Hid (true = (R.data.toList.take (m + 1)).contains 47) := by
                    show true = _
                    rw [contains_snoc _ _ _ _ HA.out, c47, ← HBb.out]
                    rfl
                  clear e47 c47
                  go_wp2
                  go_round
                  case rel => exact ⟨m + 1, true, by omega, by go_num, rfl, HBn⟩
                  case measure => simp [intOf]; omega
                · have e47' : (((R[m]'hml).toNat : Int) == 47) = false := e47.trans (decide_eq_false c47)
                  have HBn : Hid (false = (R.data.toList.take (m + 1)).contains 47) := by
                    show false = _
                    rw [contains_snoc _ _ _ _ HA.out, ← HBb.out, decide_eq_false (Ne.symm c47)]
                    rfl
                  clear e47 c47
                  go_wp2
                  go_round
                  case rel => exact ⟨m + 1, false, by omega, by go_num, rfl, HBn⟩
                  case measure => simp [intOf]; omega
            · have hb : b = true := by
                rw [HBb.out, List.take_of_length_le (by rw [← Lib.size_eq]; omega)]
                exact H3.out
              subst hb
              go_wp2
              go_roundw
              case rel => exact ⟨k + 1, by omega, by go_num, (by rw [HE.out]; exact HO), HB⟩
              case measure => simp [intOf]; omega
        · obtain ⟨R, hR⟩ : ∃ R, s.extract (q.size + 1) s.size = R := ⟨_, rfl⟩
          rw [hR] at h3
          try rw [hR] at h4
          have hRs : R.size ≤ 14000000 := by
            have h5 : R.size ≤ s.size := by
              rw [← hR, Lib.size_eq, Lib.size_eq s, Go.Proofs.YtcgpmnlondnbhaaGreatDoor.extract_data, List.length_take, List.length_drop]
              omega
            omega
          have HE := Lib.hid (kidsTo_some HX.out h4)
          have H3 := Lib.hid h3
          have h2' : (!((s.extract 0 (q.size + 1)).toList == (q ++ (⟨#[47]⟩ : ByteArray)).toList)) = false := by rw [h2]; rfl
          clear h3 h4
          go_wp2
          go_loop [9, 10] (fun d j => ∃ (m : Nat) (b : Bool), m ≤ R.size ∧ j = .int .i64 m ∧ d = .bool b ∧ Hid (b = (R.data.toList.take m).contains 47)) (fun _ j => R.size - (intOf j).toNat)
          case atStart => exact ⟨0, false, Nat.zero_le _, rfl, rfl, rfl⟩
          case round =>
            obtain ⟨m, b, hm, rfl, rfl, HBb⟩ := hrel
            by_cases hml : m < R.size
            · have HA := Lib.hid (at_data R m hml)
              cases b with
              | true =>
                have HBn : Hid (true = (R.data.toList.take (m + 1)).contains 47) := by
                  show true = _
                  rw [contains_snoc _ _ _ _ HA.out, ← HBb.out]
                  rfl
                go_wp2
                go_round
                case rel => exact ⟨m + 1, true, by omega, by go_num, rfl, HBn⟩
                case measure => simp [intOf]; omega
              | false =>
                have e47 := u8_eq (R[m]'hml) 47 (by decide)
                by_cases c47 : (R[m]'hml) = 47
                · have e47' : (((R[m]'hml).toNat : Int) == 47) = true := by rw [c47]; rfl
                  have HBn : Hid (true = (R.data.toList.take (m + 1)).contains 47) := by
                    show true = _
                    rw [contains_snoc _ _ _ _ HA.out, c47, ← HBb.out]
                    rfl
                  clear e47 c47
                  go_wp2
                  go_round
                  case rel => exact ⟨m + 1, true, by omega, by go_num, rfl, HBn⟩
                  case measure => simp [intOf]; omega
                · have e47' : (((R[m]'hml).toNat : Int) == 47) = false := e47.trans (decide_eq_false c47)
                  have HBn : Hid (false = (R.data.toList.take (m + 1)).contains 47) := by
                    show false = _
                    rw [contains_snoc _ _ _ _ HA.out, ← HBb.out, decide_eq_false (Ne.symm c47)]
                    rfl
                  clear e47 c47
                  go_wp2
                  go_round
                  case rel => exact ⟨m + 1, false, by omega, by go_num, rfl, HBn⟩
                  case measure => simp [intOf]; omega
            · have hb : b = false := by
                rw [HBb.out, List.take_of_length_le (by rw [← Lib.size_eq]; omega)]
                exact H3.out
              subst hb
              have hkl : (kidsTo t p k).length ≤ 2000000 := Nat.le_trans (kidsTo_length p k) (by have := HF.out.names; omega)
              go_wp2_with fail
              refine (rput_any HO.out R hkl).mono ?_
              rintro e w2 ⟨v2, rfl, ho2, hb2⟩
              have HO2 : Hid (OwnTexts w.heap.size w2 v2 (kidsTo t p (k + 1))) := by
                show OwnTexts _ _ _ _
                rw [HE.out]
                exact ho2.mono HB.out.size
              have HB2 := Lib.hid (below_next HB.out hb2)
              clear ho2 hb2
              go_wp2
              go_roundw
              case rel => exact ⟨k + 1, by omega, by go_num, HO2, HB2⟩
              case measure => simp [intOf]; omega
      · have HFin : Hid (kidsTo t p k = t.kids p) := kidsTo_all p (by have := HN.out; omega)
        have HOF := HO.out
        rw [HFin.out] at HOF
        have HOF2 := Lib.hid HOF
        rw [HN.out] at r1
        clear HOF
        go_wp2
        go_ret
        exact ⟨_, rfl, HOF2.out, HB.out⟩
end
end Go.Proofs.YtcgpmnlondnbhaaGreatDoor
