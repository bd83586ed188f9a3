/-
  SpG: SpBmDo, SpBmWrite, SpBmCut, SpBmFile.
-/
import Derived.Test.YtaphcmcimoloiaaGreatDoorSpF
namespace Go.Proofs.YtaphcmcimoloiaaGreatDoor.Sp
open Go Txt

/-- A file that is open: its side, what it is, the changes that were made. -/
structure BSt where
  S : Side
  F : File
  made : List Int
def BSt.chg (t : BSt) (j off : Int) (x : ByteArray) (ahead : List Int) : BSt := ⟨t.S.change j off x ahead, t.F, t.made ++ [t.S.changeN j off x ahead]⟩
def BSt.took (t : BSt) (g : Geom) (ks : List Int) : BSt := ⟨(t.S.block g ks).1, t.F, t.made ++ [(t.S.block g ks).2.2.1]⟩
def BSt.newN (t : BSt) (g : Geom) (ks : List Int) : Int := (t.S.block g ks).2.1
def BSt.fresh (t : BSt) (g : Geom) (ks : List Int) (x : ByteArray) : BSt := (t.took g ks).chg (t.newN g ks) 0 x [(t.S.block g ks).2.2.1]
def BSt.newA (t : BSt) (g : Geom) (ks : List Int) (x : ByteArray) : List Int := [(t.S.block g ks).2.2.1, (t.took g ks).S.changeN (t.newN g ks) 0 x [(t.S.block g ks).2.2.1]]
def BSt.name (t : BSt) (g : Geom) (i : Int) (q : Nat) (b : Int) (ahead : List Int) : BSt := { (t.chg (pointSec g i t.F q) (pointOff q) (putB 2 b) ahead) with F := { t.F with blocks := t.F.blocks.set q b } }
def BSt.more (t : BSt) (g : Geom) (i : Int) (m : Int) (ahead : List Int) : BSt := { (t.chg (inodeSec g i) 24 (putB 2 m) ahead) with F := { t.F with more := m } }
def BSt.listed (t : BSt) (g : Geom) (i : Int) (ks : List Int) (q : Nat) : BSt := if 8 ≤ q ∧ t.F.more = 0 then (t.fresh g ks blank).more g i (t.newN g ks) (t.newA g ks blank) else t
def allB (off : Nat) (x : ByteArray) : ByteArray := ofL (patchL (zeros 64) off x.data.toList)
def BSt.named (t : BSt) (g : Geom) (i : Int) (ks : List Int) (q off : Nat) (x : ByteArray) : BSt := (t.fresh g ks (allB off x)).name g i q (t.newN g ks) (t.newA g ks (allB off x))
def BSt.put (t : BSt) (g : Geom) (i : Int) (ks : List Int) (q off : Nat) (x : ByteArray) : BSt :=
  if t.F.blocks.getD q 0 ≠ 0 then t.chg (t.F.blocks.getD q 0) off x [] else (t.listed g i ks q).named g i ks q off x

theorem nums_room {S : Side} {g : Geom} {b : Bool} {no : Int → Int → Int} {X : List Int} (hT : Taken S g b no X) (hn : NoInj g b no) {ks : List Int} (hk : ∀ k ∈ ks, 0 ≤ k ∧ k < g.groups) (hd : ks.Nodup)
    (h : X.length < ks.length * (manyG g b).toNat) : ∃ k ∈ ks, ∃ p : Nat, (p : Int) < manyG g b ∧ no k p ∉ X := by
  refine Classical.byContradiction fun hno => ?_
  have h1 := filter_mem_count hT.nodup (numsK g b no ks) (numsK_nodup hn hk hd) (fun x hx => by
    obtain ⟨k, hkk, hx⟩ := List.mem_flatMap.1 hx
    obtain ⟨p, hp, rfl⟩ := List.mem_map.1 hx
    have hp := List.mem_range.1 hp
    exact Classical.byContradiction fun hn => hno ⟨k, hkk, p, by omega, hn⟩)
  rw [numsK_length] at h1
  have := List.length_filter_le (fun x => decide (x ∈ numsK g b no ks)) X
  omega
def sameFile (F F' : File) : Prop := F'.kind = F.kind ∧ F'.links = F.links ∧ F'.size = F.size ∧ F'.parent = F.parent ∧ F'.gen = F.gen
theorem allB_size {off : Nat} {x : ByteArray} (h : off + x.size ≤ 64) : (allB off x).size = 64 := by
  unfold allB
  have hx : x.data.toList.length = x.size := rfl
  rw [Lib.size_eq, ofL_data, patchL_length (by rw [zeros_length, hx]; exact h), zeros_length]
section
variable {g : Geom} {i : Int} {X Y : List Int} {r : Nat} {t : BSt}
theorem bm_named (h : Bm g i t.S t.F X Y r) (hg : g.ok) (h1 : 1 ≤ i) (h2 : i ≤ g.groups * g.inodes) (hr : r + 4 < 1024) {ks : List Int} (hk : ∀ k ∈ ks, 0 ≤ k ∧ k < g.groups) (hd : ks.Nodup) (hroom : Y.length < ks.length * g.blocks.toNat) {q off : Nat} (hq : q < 40) (hm : 8 ≤ q → t.F.more ≠ 0) (h0 : t.F.blocks.getD q 0 = 0) {x : ByteArray} (hx : off + x.size ≤ 64) :
    ∃ N, N ≠ 0 ∧ Bm g i (t.named g i ks q off x).S { t.F with blocks := t.F.blocks.set q N } X (Y ++ [N]) (r + 3) ∧ (t.named g i ks q off x).F = { t.F with blocks := t.F.blocks.set q N } ∧
      ({ t.F with blocks := t.F.blocks.set q N } : File).img (t.named g i ks q off x).S.read = patchL (t.F.img t.S.read) (64 * q + off) x.data.toList := by
  obtain ⟨N, S1, e1, k1, l1, n1, n0, c1, cn1, b1, i1, r1, l2⟩ := h.fresh hg (by omega) hk (nums_room h.held.tb (blockNo_inj hg) hk hd hroom) (allB_size hx)
  have hp := b1.point hg h1 h2 (by omega) hq (b := N) (Or.inr ⟨List.mem_append_right _ (List.mem_singleton.2 rfl), fun hm => n1 (h.own N hm)⟩) hm (ahead := [(t.S.deps.last : Int) + 1, (t.S.deps.last : Int) + 2]) (fun n hn => by
    rw [l2]
    simp only [List.mem_cons, List.not_mem_nil, or_false] at hn
    omega)
  have et : (t.named g i ks q off x).S = (S1.change N 0 (allB off x) [(t.S.deps.last : Int) + 1]).change (pointSec g i t.F q) (pointOff q) (putB 2 N) [(t.S.deps.last : Int) + 1, (t.S.deps.last : Int) + 2] ∧ (t.named g i ks q off x).F = { t.F with blocks := t.F.blocks.set q N } := by
    unfold BSt.named BSt.name BSt.chg BSt.fresh BSt.newA BSt.newN BSt.took BSt.chg
    dsimp only
    rw [e1]
    dsimp only
    rw [cn1]
    exact ⟨rfl, rfl⟩
  rw [et.1, et.2]
  have hq2 : q < t.F.blocks.length := by rw [h.file.len]; exact hq
  have hb0 : t.F.blocks[q] = 0 := by
    rw [List.getD_eq_getElem?_getD, List.getElem?_eq_getElem hq2] at h0
    exact h0
  refine ⟨N, n0, hp.2.1, rfl, ?_⟩
  rw [hp.2.2]
  have hs : secL (S1.change N 0 (allB off x) [(t.S.deps.last : Int) + 1]).read N = patchL (zeros 64) off x.data.toList := by
    unfold secL
    rw [if_neg n0, r1]
    unfold allB
    rw [ofL_data]
  rw [hs, i1]
  exact img_new h.file (h.sized hg) hq hb0 hx
end
end Go.Proofs.YtaphcmcimoloiaaGreatDoor.Sp

namespace Go.Proofs.YtaphcmcimoloiaaGreatDoor.Sp
open Go Txt

def MadeOk (t : BSt) : Prop := ∀ n ∈ t.made, 1 ≤ n ∧ n ≤ (t.S.deps.last : Int)
theorem made_chg {t : BSt} (h : MadeOk t) {j off : Int} {x : ByteArray} {ahead : List Int} (hc : t.S.changeC j off x ahead = 0) : MadeOk (t.chg j off x ahead) := fun n hn => by
  have hl := Side.change_last hc
  have hn : n ∈ t.made ++ [t.S.changeN j off x ahead] := hn
  show 1 ≤ n ∧ n ≤ ((t.S.change j off x ahead).deps.last : Int)
  rw [hl.1]
  rcases List.mem_append.1 hn with hn | hn
  · have := h n hn; omega
  · rw [List.mem_singleton, hl.2] at hn
    omega
theorem made_file {t : BSt} (h : MadeOk t) (F : File) : MadeOk { t with F := F } := h
section
variable {g : Geom} {i : Int} {X Y : List Int} {r : Nat} {t : BSt}
theorem made_fresh (h : Bm g i t.S t.F X Y r) (hm : MadeOk t) (hg : g.ok) (hr : r + 1 < 1024) {ks : List Int} (hk : ∀ k ∈ ks, 0 ≤ k ∧ k < g.groups) (hroom : ∃ k ∈ ks, ∃ p : Nat, (p : Int) < g.blocks ∧ blockNo g k p ∉ Y) {x : ByteArray} (hx : x.size = 64) : MadeOk (t.fresh g ks x) := by
  obtain ⟨N, S1, e1, k1, l1, n1, n0, c1, cn1, b1, i1, r1, l2⟩ := h.fresh hg hr hk hroom hx
  have e2 : t.took g ks = ⟨S1, t.F, t.made ++ [(t.S.deps.last : Int) + 1]⟩ := by unfold BSt.took; rw [e1]
  have e3 : t.newN g ks = N := by unfold BSt.newN; rw [e1]
  unfold BSt.fresh
  rw [e1, e2, e3]
  refine made_chg (t := ⟨S1, t.F, t.made ++ [(t.S.deps.last : Int) + 1]⟩) (fun n hn => ?_) c1
  have hn : n ∈ t.made ++ [(t.S.deps.last : Int) + 1] := hn
  show 1 ≤ n ∧ n ≤ (S1.deps.last : Int)
  rw [l1]
  rcases List.mem_append.1 hn with hn | hn
  · have := hm n hn; omega
  · rw [List.mem_singleton] at hn
    omega
theorem made_named (h : Bm g i t.S t.F X Y r) (hm : MadeOk t) (hg : g.ok) (h1 : 1 ≤ i) (h2 : i ≤ g.groups * g.inodes) (hr : r + 4 < 1024) {ks : List Int} (hk : ∀ k ∈ ks, 0 ≤ k ∧ k < g.groups) (hd : ks.Nodup) (hroom : Y.length < ks.length * g.blocks.toNat) {q off : Nat} (hq : q < 40) (hmo : 8 ≤ q → t.F.more ≠ 0) {x : ByteArray} (hx : off + x.size ≤ 64) : MadeOk (t.named g i ks q off x) := by
  have hrm := nums_room h.held.tb (blockNo_inj hg) hk hd hroom
  have hf := made_fresh h hm hg (by omega) hk hrm (allB_size hx)
  obtain ⟨N, S1, e1, k1, l1, n1, n0, c1, cn1, b1, i1, r1, l2⟩ := h.fresh hg (by omega) hk hrm (allB_size hx)
  have hp := b1.point hg h1 h2 (by omega) hq (b := N) (Or.inr ⟨List.mem_append_right _ (List.mem_singleton.2 rfl), fun hm => n1 (h.own N hm)⟩) hmo (ahead := [(t.S.deps.last : Int) + 1, (t.S.deps.last : Int) + 2]) (fun n hn => by
    rw [l2]
    simp only [List.mem_cons, List.not_mem_nil, or_false] at hn
    omega)
  have eS : (t.fresh g ks (allB off x)).S = S1.change N 0 (allB off x) [(t.S.deps.last : Int) + 1] := by unfold BSt.fresh BSt.chg BSt.newN BSt.took; dsimp only; rw [e1]
  have eF : (t.fresh g ks (allB off x)).F = t.F := rfl
  have eN : t.newN g ks = N := by unfold BSt.newN; rw [e1]
  have eA : t.newA g ks (allB off x) = [(t.S.deps.last : Int) + 1, (t.S.deps.last : Int) + 2] := by unfold BSt.newA BSt.newN BSt.took; dsimp only; rw [e1]; dsimp only; rw [cn1]
  unfold BSt.named BSt.name
  exact made_file (made_chg hf (by rw [eS, eF, eN, eA]; exact hp.1)) _
def BSt.puts (g : Geom) (i : Int) (ks : List Int) : Nat → BSt → Nat → List UInt8 → BSt
  | 0, t, _, _ => t
  | f + 1, t, at_, d => if d = [] then t else BSt.puts g i ks f (t.put g i ks (at_ / 64) (at_ % 64) (ofL (d.take (64 - at_ % 64)))) (at_ + min d.length (64 - at_ % 64)) (d.drop (64 - at_ % 64))
end
end Go.Proofs.YtaphcmcimoloiaaGreatDoor.Sp

namespace Go.Proofs.YtaphcmcimoloiaaGreatDoor.Sp
open Go Txt

section
variable {V : Int → ByteArray} {j : Int} {F : File}
end
section
variable {g : Geom} {i : Int} {X Y : List Int} {r : Nat} {t : BSt} {first : Int}
end
end Go.Proofs.YtaphcmcimoloiaaGreatDoor.Sp

namespace Go.Proofs.YtaphcmcimoloiaaGreatDoor.Sp
open Go Txt

def BSt.sized (t : BSt) (g : Geom) (i : Int) (z : Int) (ahead : List Int) : BSt := { (t.chg (inodeSec g i) 2 (putB 2 z) ahead) with F := { t.F with size := z } }
def BSt.write (t : BSt) (g : Geom) (i : Int) (ks : List Int) (f off : Nat) (d : List UInt8) : BSt :=
  if t.F.size < ((off + d.length : Nat) : Int) then (BSt.puts g i ks f t off d).sized g i ((off + d.length : Nat) : Int) (BSt.puts g i ks f t off d).made else BSt.puts g i ks f t off d
section
variable {g : Geom} {i : Int} {X Y : List Int} {r : Nat} {t : BSt} {first : Int}
theorem bm_sized (h : Bm g i t.S t.F X Y r) (hm : MadeOk t) (hg : g.ok) (h1 : 1 ≤ i) (h2 : i ≤ g.groups * g.inodes) (hr : r < 1024) (z : Int) {ahead : List Int} (ha : ∀ n ∈ ahead, 1 ≤ n ∧ n ≤ (t.S.deps.last : Int)) :
    Bm g i (t.sized g i z ahead).S (t.sized g i z ahead).F X Y (r + 1) ∧ MadeOk (t.sized g i z ahead) ∧ (t.sized g i z ahead).F.img (t.sized g i z ahead).S.read = t.F.img t.S.read ∧ (t.sized g i z ahead).S.deps.last = t.S.deps.last + 1 ∧ t.S.changeC (inodeSec g i) 2 (putB 2 z) ahead = 0 := by
  have hs := h.setSize hg h1 h2 hr z ha
  have hl := Side.change_last hs.1
  exact ⟨hs.2.1, made_file (made_chg hm hs.1) _, hs.2.2, hl.1, hs.1⟩
end
end Go.Proofs.YtaphcmcimoloiaaGreatDoor.Sp
