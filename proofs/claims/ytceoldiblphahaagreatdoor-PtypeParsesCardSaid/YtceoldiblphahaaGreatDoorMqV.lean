/- The abstract layer, part V: a new variable that nobody writes; weaker values under a pointer. -/
import Derived.Test.YtceoldiblphahaaGreatDoorMqR
import Derived.Test.YtceoldiblphahaaGreatDoorMqP
set_option linter.unusedVariables false
set_option linter.unusedSimpArgs false
set_option linter.unusedSectionVars false
namespace Go.Mq
variable [GT]
section
variable {P : Program} {N : Nat} {s : Nat → PV} {σ : List Ent}

theorem OpOk.boxPtr {o : Oper} {t : TypeId} {x : Operand} (ho : o.op = .box t x) {ρ : Operand → PV} {v0 : PV} (hx : ρ x = v0) (hs : v0.solid = true) {cs : List PV} (hc : v0.cells = cs) : OpOk P o ρ σ (Ret (.ptr cs) σ) := by
  subst hc; subst hx
  have h := OpOk.box (P := P) (T := fun _ => none) (σ := σ) ho (ρ := ρ) hs
  intro K a w hsep hr kk QQ hk
  refine h K a w hsep hr kk QQ ?_
  rintro v r σ' w' ⟨b, rfl, rfl⟩ h2 h3 h4
  have hm : Melt [.cells b (ρ x).cells] σ (.loc b 0) (.ptr (ρ x).cells) := Melt.loc (.head _) (MeltL.same _)
  refine hk v _ σ w' ⟨rfl, rfl⟩ (Sep.dropped (drop := [_]) h2) (hm K w' v h2 h3) ⟨h4.os, h4.tape, h4.output, h4.size, h4.cell, h4.block, fun b' j ho => h4.own b' j (owns_cons.2 (.inr ho))⟩

theorem Wk.trans {x y z : PV} (h : Wk x y) (k : Wk y z) : Wk x z := fun W w v hr => k W w v (h W w v hr)
theorem WkL.len {xs ys : List PV} (h : WkL xs ys) : xs.length = ys.length := by
  induction h with
  | nil => rfl
  | cons _ _ ih => simp [ih]
theorem WkL.get {xs ys : List PV} (h : WkL xs ys) : ∀ (j : Nat) (x y : PV), xs[j]? = some x → ys[j]? = some y → Wk x y := by
  induction h with
  | nil => intro j x y hx; simp at hx
  | cons h1 _ ih =>
    intro j x y hx hy
    cases j with
    | zero => simp at hx hy; subst hx; subst hy; exact h1
    | succ j => exact ih j x y (by simpa using hx) (by simpa using hy)
theorem WkL.refl : ∀ (xs : List PV), WkL xs xs
  | [] => .nil
  | x :: xs => .cons (Wk.refl x) (WkL.refl xs)
theorem Wk.ptr {xs ys : List PV} (h : WkL xs ys) : Wk (.ptr xs) (.ptr ys) := fun W w v hr => by
  obtain ⟨b, off, c, rfl, h1, h2, h3⟩ := rep_ptr hr
  refine .ptr c (fun j hj => h1 j (by rw [h.len]; exact hj)) (fun j hj => h2 j (by rw [h.len]; exact hj)) (fun j y hy => ?_)
  have hj : j < xs.length := by rw [h.len]; exact (List.getElem?_eq_some_iff.1 hy).1
  exact h.get j _ y (List.getElem?_eq_getElem hj) hy W w _ (h3 j _ (List.getElem?_eq_getElem hj))
theorem Wk.slc {xs ys : List PV} {n : Nat} (h : WkL xs ys) : Wk (.slc xs n) (.slc ys n) := fun W w v hr => by
  obtain ⟨a, cap, rfl, hn, hc⟩ := rep_slc hr
  cases h with
  | nil => exact .slc0 a n cap hn
  | cons h1 hr' =>
    obtain ⟨b, off, c, rfl, g1, g2, g3⟩ := hc (by simp)
    have h := WkL.cons h1 hr'
    refine .slc c hn (fun j hj => g1 j (by rw [h.len]; exact hj)) (fun j hj => g2 j (by rw [h.len]; exact hj)) (fun j y hy => ?_)
    have hj := (List.getElem?_eq_some_iff.1 hy).1
    rw [← h.len] at hj
    exact h.get j _ y (List.getElem?_eq_getElem hj) hy W w _ (g3 j _ (List.getElem?_eq_getElem hj))
theorem ExOps.gB {ops : Array Oper} {d : Option Nat} {t : TypeId} {parts : Array (Nat × Operand)} {ty : TypeId} {pos : String} {after : Array Edge} {gd : Option (Nat × Bool)} {rest : List Oper} {Q : (Nat → PV) → List Ent → Prop} (h : ExOps P N ops (⟨d, .build t parts, ty, pos, after, gd⟩ :: rest) s σ Q) : ExOps P N ops (⟨d, .build t parts, ty, pos, after, gd⟩ :: rest) s σ Q := h
theorem one_cells {v : PV} (h : v.one = true) : v.cells = [v] ∧ v.solid = true := by
  cases v <;> first | exact ⟨rfl, rfl⟩ | simp [PV.one] at h
/-- A new row of one, of two. -/
theorem OpOk.bs1 {T : TT} (hT : TOk P T) {v : PV} (h : v.one = true) {o : Oper} {t e : TypeId} {x : Operand} (ho : o.op = .buildSlice t 1 #[(0, x)]) {ρ : Operand → PV} {i ie : TI} (ht : T t = some i) (hd : i.desc = .slice e) (he : T e = some ie) (h1 : ie.size = 1) {z : PV} (hz : ie.zero = [z]) (hx : ρ x = v) : OpOk P o ρ σ (Ret (.ful [v] 1) σ) := by
  refine OpOk.calc hT (r := .ful [v] 1) ?_
  obtain ⟨desc, size, bytes, zero⟩ := i
  simp only at hd; subst hd
  rw [ho]
  simp [acalc, ht, he, h1, hz, zerosOf, afill, hx, one_cells h]
theorem OpOk.bs2 {T : TT} (hT : TOk P T) {v u : PV} (h : v.one = true) (h' : u.one = true) {o : Oper} {t e : TypeId} {x y : Operand} (ho : o.op = .buildSlice t 2 #[(0, x), (1, y)]) {ρ : Operand → PV} {i ie : TI} (ht : T t = some i) (hd : i.desc = .slice e) (he : T e = some ie) (h1 : ie.size = 1) {z : PV} (hz : ie.zero = [z]) (hx : ρ x = v) (hy : ρ y = u) : OpOk P o ρ σ (Ret (.ful [v, u] 2) σ) := by
  refine OpOk.calc hT (r := .ful [v, u] 2) ?_
  obtain ⟨desc, size, bytes, zero⟩ := i
  simp only at hd; subst hd
  rw [ho]
  simp [acalc, ht, he, h1, hz, zerosOf, afill, hx, hy, one_cells h, one_cells h']
theorem Callable.wkRet {f : FuncId} {args : List PV} {X X' : PV} {Y : List Ent} (h : Callable P f args σ (Ret X Y)) (hw : Wk X X') : Callable P f args σ (Ret X' Y) := by
  refine ⟨h.1, fun K w vals hs hr => (h.2 K w vals hs hr).mono ?_⟩
  rintro e w' ⟨v, r, σ', rfl, ⟨rfl, rfl⟩, hS, hR, hT⟩
  exact ⟨v, _, _, rfl, ⟨rfl, rfl⟩, hS, hw _ _ _ hR, hT⟩
/-- A node's value, as a tree's. -/
theorem wk_node (k n : Int) (a b : ByteArray) {ks : PV} (ts : List Tree) (h : Wk ks (.slc (pvs ts) ts.length)) : Wk (.ptr [.int .i64 k, .int .i64 n, .str a, .str b, ks]) (Tree.node k n a b ts).pv := by
  rw [Tree.pv]
  exact Wk.ptr (.cons (Wk.refl _) (.cons (Wk.refl _) (.cons (Wk.refl _) (.cons (Wk.refl _) (.cons h .nil)))))
theorem pv_one (t : Tree) : t.pv.one = true := by cases t; simp [Tree.pv, PV.one]
end
end Go.Mq
