/-
  JudgeFull: where what it reads is of bulk at most 1048576, whatever it is given, the call returns true, and each argument reads as it read. Conditions: the bulk; the package variables that the row lists start as the program's text lays them (the card ties them).
-/
import Derived.Test.YtcgpmnlondnbhaaDoorFrame
import Derived.Test.YtcgpmnlondnbhaaDoorJudgeFull
import Derived.Test.YtcgpmnlondnbhaaDoorOpenTwo
namespace Go.Proofs.YtcgpmnlondnbhaaDoor.judgeFull
open Go.ChangeShapes Go.WideShapes Go.ChangeAt Go.RowKit
open Go.ChangeMaps (open_string)

set_option maxRecDepth 100000 in
theorem contract (H : Type) (enc : TypeId × Value → H) (W : World) (base : Nat) (args : Array Value) (ds gs : List (DataW H)) (before : List MemPlace)
    (hval : ∀ (j : Nat) t v, Tryd.f10.params[j]? = some t → args[j]? = some v → Value.okWide Tryd.prog W .any base t v)
    (hW : DataW.Whole enc Tryd.prog Tryd.f10.params.toList Rows.judgeFullSpec.vars false W args.toList ds gs before) (hk : Rows.uptoSmall H (ds ++ gs) = true)
    (hsz : (DataW.weightsEach Tryd.prog (Tryd.f10.params.toList ++ Rows.judgeFullSpec.plain.varTypes Tryd.prog) (ds ++ gs)).all (· ≤ reachBytes) = true) (hsh : W.ShapedOpen Tryd.prog) :
    Calls Tryd.prog 10 args W fun e W' => ∃ v, e = .returned v ∧ Rows.judgeFullSpec.post enc Tryd.prog Tryd.f10 false true false false W args v W' := by
  have hW' := hW
  obtain ⟨p, q, hA0, hV, rfl, hfz, hnd⟩ := hW
  have hA : DataW.TrodAll enc Tryd.prog W 0 (fun _ => true) true Tryd.f10.params.toList args.toList ds p := hA0
  rw [Tryd.params10] at hA hval hsz
  obtain ⟨v0, vs0, d0, ds0, p0, q0, hargs, rfl, rfl, h0, r0⟩ := trodAll_cons hA
  obtain ⟨v1, vs1, d1, ds1, p1, q1, rfl, rfl, rfl, h1, r1⟩ := trodAll_cons r0
  obtain ⟨rfl, rfl, rfl⟩ := trodAll_nil r1
  obtain rfl : args = #[v0, v1] := by cases args; simp_all
  obtain ⟨rfl, rfl⟩ := trodVars_none hV
  have hnn0 := ops_nil_of (hval 0 38 v0 rfl rfl) h0
  obtain ⟨l0, ho0, hi0, hd0⟩ := open_ops (hval 0 38 v0 rfl rfl) h0 (fun x hx => by simpa using hW'.lt x (by simp [hx]))
  obtain ⟨o1, rfl, hi1, rfl, rfl⟩ := open_op (hval 1 32 v1 rfl rfl) h1
  clear hA0
  rw [List.append_nil] at hk
  have hB : Rows.uptoBulkAll _ ≤ 1048576 := of_decide_eq_true hk
  simp only [Rows.uptoBulkAll] at hB
  have hk0 : ∀ o ∈ l0, OpOk o := by
    intro o hol
    have hb := bulk_op (H := H) o
    have hlo : Rows.uptoBulk (opD (H := H) o) ≤ 1048576 := by
      rcases hd0 with ⟨_, rfl⟩ | ⟨sp, rfl⟩
      · cases hol
      · have := bulk_mem (List.mem_map.2 ⟨o, hol, rfl⟩ : opD (H := H) o ∈ l0.map opD)
        simp only [Rows.uptoBulk] at hB
        omega
    exact (hi0 o hol).ok (by omega) (by omega)
  have hb1 := bulk_op (H := H) o1
  have hmax : MaxOk W := by first | exact Tryd.laysM146.s1_3 W hsh | exact Tryd.laysM138.s1_3 W hsh | exact Tryd.laysM219.s1_3 W hsh
  refine (judgeFull_walk W (ho0.nil hnn0) hk0 (hi1.ok (by omega) (by omega)) hmax).mono fun e W' ⟨he, hg⟩ => ?_
  subst he
  exact ⟨_, rfl, frame.post_true frame.laidOut Tryd.underlying4 (by kernel_rfl) rfl rfl hW' rfl hg⟩

noncomputable def world (os : Os) : World := frame.laidWorld [(2, Rows.laid_unicode_utf8_acceptRanges), (1, Rows.laid_unicode_utf8_first)] os
theorem laid_met (os : Os) : laidMet Tryd.prog Rows.judgeFullUptoRow.laid ((world os).forCall (fun _ _ => 0) ⟨#[], #[.slice none 0 0, .agg #[.int .i64 0, .string .empty, .string .empty, .int .i64 0, .int .i64 0, .string .empty]], []⟩).memory :=
  laidMet_of_run' 8 (by kernel_rfl) (by kernel_rfl)
theorem reads (os : Os) {H : Type} (enc : TypeId × Value → H) : ∃ places, DataW.whole enc Tryd.prog ((world os).forCall (fun _ _ => 0) ⟨#[], #[.slice none 0 0, .agg #[.int .i64 0, .string .empty, .string .empty, .int .i64 0, .int .i64 0, .string .empty]], []⟩).memory Tryd.f10.params.toList Rows.judgeFullSpec.vars false (#[.slice none 0 0, .agg #[.int .i64 0, .string .empty, .string .empty, .int .i64 0, .int .i64 0, .string .empty]] : Array Value).toList 8 = some ([.nil, .agg [.lit (.int .i64 0), .lit (.string []), .lit (.string []), .lit (.int .i64 0), .lit (.int .i64 0), .lit (.string [])]], [], places) :=
  ⟨[], by kernel_rfl⟩

set_option maxRecDepth 100000 in
theorem lifted (os : Os) (started : os.Started) (H : Type) (enc : TypeId × Value → H) (F : Stop.Interp) :
    ReturnsInHanded {} Tryd.checked os 10 .any ((Rows.OpenSpec.upto Rows.judgeFullSpec).preRow enc Tryd.prog Tryd.f10 Rows.judgeFullUptoRow.domain false Rows.judgeFullUptoRow.laid) (((Rows.OpenSpec.upto Rows.judgeFullSpec).at F).post enc Tryd.prog Tryd.f10 false true false false) := by
  obtain ⟨places, hx⟩ := reads os enc
  refine returnsInHanded_of_row (C := Tryd.checked) (s := (Rows.OpenSpec.upto Rows.judgeFullSpec)) frame.own started (by kernel_rfl) Tryd.func10
    (witness_row_at (enc := enc) (C := Tryd.checked) false (world os) #[.slice none 0 0, .agg #[.int .i64 0, .string .empty, .string .empty, .int .i64 0, .int .i64 0, .string .empty]] rfl (by kernel_rfl) (by kernel_rfl) (by kernel_rfl)
      (OpenSpec.preRow_of_cond 8 hx (by kernel_rfl) (fun k hk => by cases hk; kernel_rfl) (by kernel_rfl) (laid_met os))) ?_
  intro W base args ds gs before hval hW _ hcond hsz _ hsh _
  exact contract H enc W base args ds gs before hval hW (hcond _ rfl) hsz hsh

theorem said : Rows.JudgeFullUptoSaid :=
  OpenClaim.holds_of_cond 10 Tryd.f10 rfl rfl rfl rfl rfl rfl rfl ⟨rfl, rfl, rfl, rfl, rfl⟩ rfl rfl rfl rfl rfl (by kernel_rfl) Tryd.func10 (by kernel_rfl)
    (of_decide_eq_true (by kernel_rfl)) (by unfold Func.isWrapper; first | (rw [if_pos (by decide +kernel)]; kernel_rfl) | (rw [if_neg (by decide +kernel)]; exact ⟨rfl, rfl⟩))
    (fun os started H enc _ F => by rw [OpenClaim.pre_eq_preRow]; exact lifted os started H enc F)

theorem plain (f : FuncId) (fn : Func) (hf : Tryd.pinned.checked.prog.funcNamed Rows.judgeFullUptoRow.func = some f) (hfn : Tryd.pinned.checked.prog.funcs[f]? = some fn) :
    false = Tryd.pinned.checked.prog.looks [] ∧ ∀ (j : Nat) t, fn.params[j]? = some t → Tryd.pinned.checked.prog.wantsStandIn t = false := by
  obtain rfl : f = 10 := Option.some.inj ((show Tryd.prog.funcNamed Rows.judgeFullUptoRow.func = some 10 by kernel_rfl).symm.trans hf) |>.symm
  obtain rfl : fn = Tryd.f10 := (Option.some.inj (Tryd.func10.symm.trans hfn)).symm
  refine ⟨by kernel_rfl, fun j t ht => ?_⟩
  have hall : Tryd.f10.params.toList.all (fun t => !Tryd.prog.wantsStandIn t) = true := by kernel_rfl
  have h := List.all_eq_true.1 hall t (List.mem_of_getElem? (by rw [Array.getElem?_toList]; exact ht))
  exact Bool.not_eq_true' _ |>.mp h

/-- The card. -/
theorem card : Rows.JudgeFullUptoCardSaid :=
  Claim7.holds_tied_plain_at .later [] _ _ _ _ said (fun _ h => by cases h) (by kernel_rfl) (fun _ h => by cases h) judgeFullUpto_row_tie rfl ⟨rfl, rfl⟩ (by kernel_rfl) rfl plain (by kernel_rfl)
end Go.Proofs.YtcgpmnlondnbhaaDoor.judgeFull
