/- The shelf's contracts (strings.Split, strings.Join, utf8.ValidString) as contracts over pure values. Conditions: each text's length below a bound. -/
import Derived.Test.YtceoldiblphahaaGreatDoorMqShelf
import Derived.Test.YtceoldiblphahaaGreatDoorMqT
import Derived.Test.YtceoldiblphahaaGreatDoorMqP
import Derived.Test.YtceoldiblphahaaGreatDoorMqV
import Derived.Test.YtceoldiblphahaaGreatDoorMqZ
set_option linter.unusedVariables false
set_option linter.unusedSimpArgs false
set_option linter.unusedSectionVars false
namespace Go.Mq
open Go.RowKit (Below)
section
variable [GT]
/-- A contract of the kit's that touches nothing below the heap's size. -/
theorem Callable.ofBelow {P : Program} {f : FuncId} {fn : Func} {args : List PV} {X : PV} (h1 : P.funcs[f]? = some fn) (h2 : fn.body.isSome = true) (h3 : (fn.name == "runtime.NumGoroutine") = false)
    (h : ∀ (W : Own) (w : World) (vals : List Value), (∀ b j, W b j → b < w.heap.size) → (∀ g j p, GT.val g j = some p → ∃ v, w.cell? ⟨g, j, none⟩ = some v ∧ p v) → RepL W w vals args →
      Calls P f vals.toArray w fun e w' => ∃ v, e = .returned v ∧ Below w.heap.size w w' ∧ Rep W w' v X) : Callable P f args [] (Ret X []) := by
  refine ⟨⟨fn, h1, h2, h3⟩, fun K w vals hs hr => ?_⟩
  have hK : ∀ b j, ((owns []).or K) b j → b < w.heap.size := fun b j h => by
    rcases h with h | h
    · exact hs.lt h
    · exact hs.bound b j h
  refine (h _ w vals.toList hK (fun g j p hg => (hs.glob g j p hg).1) hr).mono ?_
  rintro e w' ⟨v, rfl, hb, hv⟩
  have ht : Trans (owns []) w w' (owns []) := by
    refine ⟨hb.os, hb.tape, hb.output, hb.size, fun b j c _ hc => ?_, fun b hlt _ => hb.block b hlt, fun b j h => .inl h⟩
    have hlt := lt_of_cell hc
    simp only [World.cell?] at hc ⊢
    rw [hb.block b hlt]; exact hc
  refine ⟨v, X, [], rfl, ⟨rfl, rfl⟩, ?_, hv, ht⟩
  refine ⟨fun e he => (nomatch he), List.Pairwise.nil, fun b j ho => absurd ho (owns_nil b j), fun b j hk => Nat.lt_of_lt_of_le (hs.bound b j hk) hb.size, fun g j p hg => ?_⟩
  obtain ⟨⟨v, hv, hp⟩, g1, g2⟩ := hs.glob g j p hg
  exact ⟨⟨v, ht.cell g j v (owns_nil g j) hv, hp⟩, owns_nil g j, g2⟩
theorem repL_one {W : Own} {w : World} {vs : List Value} {x : PV} (h : RepL W w vs [x]) : ∃ v, vs = [v] ∧ Rep W w v x := by
  match vs, h with
  | [v], h => exact ⟨v, rfl, h.2 0 v x rfl rfl⟩
  | [], h => have := h.1; simp at this
  | _ :: _ :: _, h => have := h.1; simp at this
theorem repL_two {W : Own} {w : World} {vs : List Value} {x y : PV} (h : RepL W w vs [x, y]) : ∃ u v, vs = [u, v] ∧ Rep W w u x ∧ Rep W w v y := by
  match vs, h with
  | [u, v], h => exact ⟨u, v, rfl, h.2 0 u x rfl rfl, h.2 1 v y rfl rfl⟩
  | [], h => have := h.1; simp at this
  | [_], h => have := h.1; simp at this
  | _ :: _ :: _ :: _, h => have := h.1; simp at this
end
end Go.Mq
namespace Go.Proofs.YtceoldiblphahaaGreatDoor
open Go.Mq
open Go.RowKit (Below)

theorem valid_ok (s : ByteArray) (hs : s.size ≤ 9223372036854775807) : Callable Tryz.prog 93 [.str s] [] (Ret (.bool (Lib.validD s.data.toList)) []) := by
  refine Callable.ofBelow Tryz.func93 rfl rfl fun W w vals hW hg hr => ?_
  obtain ⟨v, rfl, hv⟩ := repL_one hr
  obtain rfl := rep_str hv
  refine (Tryz.utf8_ValidString s w hs ⟨fun c hc => ?_, fun i hi => ⟨?_, ?_⟩⟩).mono ?_
  · obtain ⟨v, hv, hp⟩ := hg 0 c (fun v => v = .int .u8 (Lib.firstT c)) (by simp [GT.val, hc])
    rw [hv, hp]
  · obtain ⟨v, hv, hp⟩ := hg 1 (2 * i) (fun v => v = .int .u8 (Lib.accLo i)) (by
      have e0 : 2 * i < 32 := by omega
      simp [GT.val, e0])
    rw [hv, hp]
  · obtain ⟨v, hv, hp⟩ := hg 1 (2 * i + 1) (fun v => v = .int .u8 (Lib.accHi i)) (by
      have e0 : 2 * i + 1 < 32 := by omega
      have e1 : (2 * i + 1) % 2 = 1 := by omega
      have e2 : (2 * i + 1) / 2 = i := by omega
      simp [GT.val, e0, e1, e2])
    rw [hv, hp]
  · rintro e w' ⟨rfl, hb⟩
    exact ⟨_, rfl, hb, .bool _⟩

theorem split_ok (s sep : ByteArray) (hs : s.size < 4294967281) (h1 : 1 ≤ sep.size) : Callable Tryz.prog 69 [.str s, .str sep] [] (Ret (.slc (strs (Lib.splitB sep 0 (Lib.countB s sep) s)) (Lib.splitB sep 0 (Lib.countB s sep) s).length) []) := by
  refine Callable.ofBelow Tryz.func69 rfl rfl fun W w vals hW hg hr => ?_
  obtain ⟨v, u, rfl, hv, hu⟩ := repL_two hr
  obtain rfl := rep_str hv
  obtain rfl := rep_str hu
  obtain ⟨_, hm, m, rfl⟩ := hg 2 0 (fun v => ∃ m, v = .int .i64 m) (by simp [GT.val])
  refine (Tryz.strings_Split s sep m w hs hm h1).mono ?_
  rintro e w' ⟨rfl, rfl⟩
  have hlen := Lib.splitB_all sep h1 0 _ s rfl
  refine ⟨_, rfl, ⟨rfl, rfl, rfl, by show _ ≤ (w.heap.push _).size; simp, fun k hk => by show (w.heap.push _)[k]? = _; simp [Array.getElem?_push, Nat.ne_of_lt hk]⟩, ?_⟩
  rw [← hlen]
  generalize Lib.splitB sep 0 (Lib.countB s sep) s = l
  refine .slc (fun j => .string (l.getD j default)) (Nat.le_refl _) (fun j hj => ?_) (fun j _ hw => absurd (hW _ _ hw) (Nat.lt_irrefl _)) (fun j x hx => ?_)
  · simp only [strs, List.length_map] at hj
    show (match (w.heap.push _)[w.heap.size]? with | some (Obj.cells c _ _) => _ | _ => none) = _
    simp [hj]
  · simp only [strs, List.getElem?_map] at hx
    obtain ⟨y, hy, rfl⟩ := Option.map_eq_some_iff.1 hx
    simp [List.getD_eq_getElem?_getD, hy]
    exact .str _

theorem join_ok (l : List ByteArray) (sep : ByteArray) (hl : l.length ≤ 140737488355328) (hlen : (Lib.join (l.map (·.data.toList)) sep.data.toList).length ≤ 140737488355328) : Callable Tryz.prog 42 [.slc (strs l) l.length, .str sep] [] (Ret (.str ⟨(Lib.join (l.map (·.data.toList)) sep.data.toList).toArray⟩) []) := by
  refine Callable.ofBelow Tryz.func42 rfl rfl fun W w vals hW hg hr => ?_
  obtain ⟨v, u, rfl, hv, hu⟩ := repL_two hr
  obtain rfl := rep_str hu
  obtain ⟨a, cap, rfl, hcap, hc⟩ := rep_slc hv
  match l, hl, hlen, hcap, hc with
  | [], _, _, _, _ =>
    refine (Tryz.strings_Join_none a cap sep w).mono ?_
    rintro e w' ⟨rfl, rfl⟩
    exact ⟨_, rfl, Below.refl _ _, .str _⟩
  | x :: xs, hl, hlen, hcap, hc =>
    obtain ⟨b, off, c, rfl, h1, h2, h3⟩ := hc (by simp [strs])
    have hcell : ∀ (j : Nat) y, (x :: xs)[j]? = some y → w.cell? ⟨b, off + j, none⟩ = some (.string y) := fun j y hy => by
      have hj : j < (strs (x :: xs)).length := by simp only [strs, List.length_map]; exact (List.getElem?_eq_some_iff.1 hy).1
      rw [h1 j hj]
      have := h3 j (.str y) (by simp only [strs, List.getElem?_map, hy]; rfl)
      rw [rep_str this]
    refine (Tryz.strings_Join b off cap (x :: xs) sep w hcell (lt_of_cell (hcell 0 x rfl)) hl hcap hlen).mono ?_
    rintro e w' ⟨rfl, hb⟩
    exact ⟨_, rfl, hb, .str _⟩
end Go.Proofs.YtceoldiblphahaaGreatDoor
