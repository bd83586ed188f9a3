/-
  SpoilTexts: marks over a row of texts that the call owns; what lies below its base stays.
-/
import Derived.Test.YtbjhicnjeefiaaaGreatDoorDumpDiff
namespace Go.Proofs.YtbjhicnjeefiaaaGreatDoor
open Go Go.RowKit Txt Sp

def SpoilTRel (w : World) (base : Nat) (e : TypeId) (g n cap : Nat) (i : Value) (wr : World) : Prop := ∃ (k : Nat) (xs : List Value), k ≤ n ∧ i = .int .i64 (k : Int) ∧ Hid (wr.ownsRow base e 1 (.slice (some ⟨g, 0, none⟩) n cap) n xs) ∧ Hid (Below base w wr)
section
set_option maxHeartbeats 4000000
set_option maxRecDepth 20000 in
theorem spoilT_any {w : World} {base : Nat} {v : Value} {l : List ByteArray} (hl : OwnTexts base w v l) : Calls Tryz.prog 15 #[v] w fun e w' => e = .returned (.tuple #[]) ∧ Below base w w' := by
  obtain ⟨e0, hown⟩ := hl
  rcases hown.2 with ⟨rfl, h0⟩ | ⟨g, cap, cur, rfl, hb, hg, h1, h2, h3, h4⟩
  · clear hown h0
    go_enter Tryz.func15, Tryz.ntmps15
    go_wp2
    go_loop [2] (fun i => i = .int .i64 0) (fun _ => 0)
    case atStart => rfl
    case round =>
      subst hrel
      go_wp2
      go_end0
      exact ⟨rfl, Below.refl _ _⟩
  · obtain ⟨n, hn⟩ : ∃ n, l.length = n := ⟨_, rfl⟩
    rw [hn] at hown h1 ⊢
    have hn3 : n ≤ 9223372036854775807 := Nat.le_trans (Nat.le_trans h1 h2) (by decide)
    have HOwn := Lib.hid hown
    have HG := Lib.hid hb
    clear hown hb hg h3 h4 hn h2
    go_enter Tryz.func15, Tryz.ntmps15
    go_wp2
    go_loopw [2] (fun i wr => SpoilTRel w base e0 g n cap i wr) (fun i _ => n - (intOf i).toNat)
    case atStart => exact ⟨0, _, Nat.zero_le _, rfl, HOwn, Below.refl _ _⟩
    case round =>
      obtain ⟨k, xs, hk, rfl, HO, HT⟩ := hrel
      by_cases hlt : k < n
      · obtain ⟨u, hu⟩ : ∃ u, xs[k]? = some u := ⟨xs[k]'(by have := HO.out.1; omega), List.getElem?_eq_getElem _⟩
        have c0 : wr.cell? ⟨g, k, none⟩ = some u := by rw [HO.out.cellAt k (by omega)]; exact hu
        have f0 : wr.frozen? ⟨g, k, none⟩ = false := HO.out.frozenAt _
        have HS := Lib.hid (HO.out.stored k (.string ⟨#[115, 112, 111, 105, 108, 116]⟩)).1
        have HT2 : Hid (Below base w (wr.setCell ⟨g, k, none⟩ (.string ⟨#[115, 112, 111, 105, 108, 116]⟩))) := HT.out.setCell HG.out _
        clear hu
        go_wp2
        go_roundw
        case rel => exact ⟨k + 1, _, by omega, by go_num, HS, HT2⟩
        case measure => simp [intOf]; omega
      · go_wp2
        go_end0
        exact ⟨rfl, HT.out⟩
end
end Go.Proofs.YtbjhicnjeefiaaaGreatDoor
