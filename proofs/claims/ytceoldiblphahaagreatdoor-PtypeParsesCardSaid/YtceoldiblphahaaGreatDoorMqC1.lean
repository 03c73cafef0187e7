/- How the statement's arguments read, and what is known of the package-level variables. -/
import Derived.Test.YtceoldiblphahaaGreatDoorMqF1
import Derived.Test.YtceoldiblphahaaGreatDoorRows
import Derived.Deep.SlicePairs
import Derived.Deep.DeepHandedRow
import Derived.Deep.DeepWitnessRowRef
import Derived.Lib.LaidIn
import Derived.Lib.LaidU8T
import Derived.PinnedBridge
import Derived.ProofKit
import Derived.OpenShut
set_option linter.unusedVariables false
set_option linter.unusedSimpArgs false
set_option maxRecDepth 100000
namespace Go.Proofs.YtceoldiblphahaaGreatDoor
open Go.Mq
open Go.ChangeShapes Go.WideShapes Go.ChangeAt Go.RowKit Go.Lib Go.Deep

theorem laidOut : laidOutB Tryz.prog = true := by kernel_rfl
theorem own : ownKnob Tryz.prog.godebug = none := by kernel_rfl
theorem cells65 : Tryz.prog.cellsOf 65 = 4 := by kernel_rfl
theorem cells3 : Tryz.prog.cellsOf 3 = 1 := by kernel_rfl
theorem cells9 : Tryz.prog.cellsOf 9 = 1 := by kernel_rfl
/-- A token lies at a place. -/
structure TokAt (W : World) (b o : Nat) (t : Tok) : Prop where
  c0 : W.cell? ⟨b, o, none⟩ = some (.int .i64 t.kind)
  c1 : W.cell? ⟨b, o + 1, none⟩ = some (.string t.text)
  c2 : W.cell? ⟨b, o + 2, none⟩ = some (.int .i64 t.n)
  c3 : W.cell? ⟨b, o + 3, none⟩ = some (.int .i64 t.at_)
theorem open_toks {H : Type} {enc : TypeId × Value → H} {W : World} {a0 : Option Addr} {len cap fuel : Nat} {x : DataW H × List MemPlace} (hf : DataW.trod enc Tryz.prog W 0 (fun _ => true) true fuel 36 [.slice a0 len cap] = some x) :
    ∃ l : List Tok, l.length = len ∧ len ≤ cap ∧ cap ≤ maxLen ∧ (∀ t ∈ l, t.text.size ≤ maxLen) ∧ (0 < len → ∃ b o, a0 = some ⟨b, o, none⟩ ∧ ∀ i t, l[i]? = some t → TokAt W b (o + i * 4) t) := by
  rcases open_slice Tryz.underlying36 hf with ⟨hcs, hx⟩ | ⟨a, len', cap', m, n, D, Pl, hcs, _, hl, hm, hmm, hx, hel⟩
  · simp at hcs
    obtain ⟨rfl, rfl, rfl⟩ := hcs
    exact ⟨[], rfl, Nat.le_refl _, Nat.zero_le _, (fun t h => nomatch h), fun h => absurd h (Nat.lt_irrefl 0)⟩
  · simp at hcs
    obtain ⟨rfl, rfl, rfl⟩ := hcs
    simp only [if_true] at hmm
    have each : ∀ i, i < len → ∃ t : Tok, t.text.size ≤ maxLen ∧ ∃ b o, a = ⟨b, o, none⟩ ∧ TokAt W b (o + i * 4) t := by
      intro i hi
      obtain ⟨cs', h1, h2⟩ := hel i (by rw [hmm]; exact Nat.lt_of_lt_of_le hi hl)
      rw [cells65] at h1
      obtain ⟨_, hlen, hcell⟩ := World.cells?_some h1
      obtain ⟨xs, k, hk, hxy, _, hxl, hfs⟩ := DataW.trod_struct Tryz.underlying65 h2
      match cs', hlen with
      | [v0, v1, v2, v3], _ =>
        have g0 := hfs 0 _ rfl
        have g1 := hfs 1 _ rfl
        have g2 := hfs 2 _ rfl
        have g3 := hfs 3 _ rfl
        have z0 : xs[0]? = some (xs[0]'(by rw [hxl]; decide)) := List.getElem?_eq_getElem _
        have z1 : xs[1]? = some (xs[1]'(by rw [hxl]; decide)) := List.getElem?_eq_getElem _
        have z2 : xs[2]? = some (xs[2]'(by rw [hxl]; decide)) := List.getElem?_eq_getElem _
        have z3 : xs[3]? = some (xs[3]'(by rw [hxl]; decide)) := List.getElem?_eq_getElem _
        obtain ⟨n0, e0, _, _⟩ := DataW.trod_int Tryz.underlying3 (g0.trans z0)
        obtain ⟨s1, e1, _, w1⟩ := DataW.trod_string Tryz.underlying9 (g1.trans z1)
        obtain ⟨n2, e2, _, _⟩ := DataW.trod_int Tryz.underlying3 (g2.trans z2)
        obtain ⟨n3, e3, _, _⟩ := DataW.trod_int Tryz.underlying3 (g3.trans z3)
        replace e0 : (List.drop 0 [v0, v1, v2, v3]).take (Tryz.prog.cellsOf 3) = [Value.int .i64 n0] := e0
        rw [cells3] at e0
        replace e0 : [v0] = [Value.int .i64 n0] := e0
        replace e1 : (List.drop 1 [v0, v1, v2, v3]).take (Tryz.prog.cellsOf 9) = [Value.string s1] := e1
        rw [cells9] at e1
        replace e1 : [v1] = [Value.string s1] := e1
        replace e2 : (List.drop 2 [v0, v1, v2, v3]).take (Tryz.prog.cellsOf 3) = [Value.int .i64 n2] := e2
        rw [cells3] at e2
        replace e2 : [v2] = [Value.int .i64 n2] := e2
        replace e3 : (List.drop 3 [v0, v1, v2, v3]).take (Tryz.prog.cellsOf 3) = [Value.int .i64 n3] := e3
        rw [cells3] at e3
        replace e3 : [v3] = [Value.int .i64 n3] := e3
        cases e0; cases e1; cases e2; cases e3
        have k0 := hcell 0 (by decide)
        have k1 := hcell 1 (by decide)
        have k2 := hcell 2 (by decide)
        have k3 := hcell 3 (by decide)
        obtain ⟨cs0, h10, _⟩ := hel 0 (by rw [hmm]; exact Nat.lt_of_lt_of_le (Nat.lt_of_le_of_lt (Nat.zero_le _) hi) hl)
        rw [cells65] at h10
        obtain ⟨_, hlen0, hcell0⟩ := World.cells?_some h10
        have k00 := hcell0 0 (by decide)
        rw [List.getElem?_eq_getElem (by rw [hlen0]; decide)] at k00
        obtain ⟨b, o, spot⟩ := a
        have hspot : spot = none := by simpa [Addr.add] using World.cell?_spot k00
        subst hspot
        rw [Mq.add_plain, Mq.add_plain] at k0 k1 k2 k3
        exact ⟨⟨n0, s1, n2, n3⟩, w1, b, o, rfl, by simpa using k0, by simpa using k1, by simpa using k2, by simpa using k3⟩
    obtain ⟨f, hfx⟩ := choose_lt each
    refine ⟨(List.range len).map f, by simp, hl, hm, fun t ht => ?_, fun h0 => ?_⟩
    · obtain ⟨i, hi, rfl⟩ := List.mem_map.1 ht
      exact (hfx i (List.mem_range.1 hi)).1
    · obtain ⟨_, b, o, rfl, _⟩ := hfx 0 h0
      refine ⟨b, o, rfl, fun i t hit => ?_⟩
      have hi : i < len := by
        have := (List.getElem?_eq_some_iff.1 hit).1
        simpa using this
      obtain ⟨_, b', o', hbo, ht⟩ := hfx i hi
      simp only [Addr.mk.injEq, and_true] at hbo
      obtain ⟨rfl, rfl⟩ := hbo
      simp [List.getElem?_map, List.getElem?_range hi] at hit
      subst hit
      exact ht
theorem max_cell {w : World} (h : w.ShapedOpen Tryz.prog) : ∃ m, w.cell? ⟨2, 0, none⟩ = some (.int .i64 m) := by
  obtain ⟨cs, hh, hs, hr⟩ := h.1 2 #[.int .i64 0] 3 (of_decide_eq_true (by kernel_rfl)) (by kernel_rfl)
  obtain ⟨ts, hts, _, hall⟩ := hr (by kernel_rfl)
  have hc : Tryz.prog.cellTypes Tryz.prog.depth 3 = some [3] := by kernel_rfl
  rw [hc] at hts
  cases hts
  have h1 : 0 < cs.size := by
    have : cs.size = 1 := hs
    omega
  obtain ⟨u, hu', hok⟩ := hall 0 cs[0] (by simp [h1])
  have : u = 3 := by simpa using hu'.symm
  subst this
  have hcell : w.cell? ⟨2, 0, none⟩ = some cs[0] := by simp [World.cell?, hh, h1]
  rw [hcell]
  unfold Cell.ok at hok
  rw [Tryz.underlying3] at hok
  cases hv : cs[0] <;> rw [hv] at hok <;> first | (simp at hok; obtain ⟨rfl, _⟩ := hok; exact ⟨_, rfl⟩) | (simp at hok; subst hok; exact ⟨_, rfl⟩) | simp at hok
theorem sep_nil {W : World} (h : laidMetH Tryz.prog [("unicode/utf8.acceptRanges", Rows.laid_unicode_utf8_acceptRanges), ("unicode/utf8.first", Rows.laid_unicode_utf8_first)] W) (hsh : W.ShapedOpen Tryz.prog) : Sep [] (fun _ _ => False) W := by
  have hL' : laidMet Tryz.prog _ W := h
  have hU : Lib.Utf8Tabs 0 1 W :=
    utf8Tabs_of_readsT (ρ := Tryz.lays196_ren) (U8Types.of196 Tryz.lays196) ⟨by kernel_rfl, by kernel_rfl, by kernel_rfl, by kernel_rfl, by kernel_rfl, by kernel_rfl, by kernel_rfl⟩
      (by have h1 := Lib.laidMet.reads hL' (.tail _ (.head _)); exact Pinned.utf8First_eq ▸ h1) (by have h1 := Lib.laidMet.reads hL' (.head _); exact (show Rows.laid_unicode_utf8_acceptRanges = Lib.acceptData by kernel_rfl) ▸ h1)
  have hM := max_cell hsh
  refine ⟨fun e he => (nomatch he), List.Pairwise.nil, fun b j ho => absurd ho (owns_nil b j), fun b j hk => hk.elim, fun g j p hg => ⟨?_, owns_nil g j, fun h => h⟩⟩
  simp only [GT.val] at hg
  split at hg
  · rename_i hc
    obtain ⟨rfl, hj⟩ := hc
    cases hg
    exact ⟨_, hU.1 j hj, rfl⟩
  split at hg
  · rename_i hc
    obtain ⟨rfl, hj⟩ := hc
    cases hg
    obtain ⟨u1, u2⟩ := hU.2 (j / 2) (by omega)
    by_cases hp : j % 2 = 0
    · rw [show 2 * (j / 2) = j by omega] at u1
      exact ⟨_, u1, by simp only [hp, if_true]⟩
    · rw [show 2 * (j / 2) + 1 = j by omega] at u2
      exact ⟨_, u2, by simp only [hp, if_false]⟩
  split at hg
  · rename_i hc
    obtain ⟨rfl, rfl⟩ := hc
    cases hg
    obtain ⟨m, hm⟩ := hM
    exact ⟨_, hm, m, rfl⟩
  · cases hg
end Go.Proofs.YtceoldiblphahaaGreatDoor
