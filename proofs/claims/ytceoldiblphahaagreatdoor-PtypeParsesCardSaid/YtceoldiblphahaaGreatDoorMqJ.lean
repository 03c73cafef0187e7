/- The abstract layer, part J: contracts that name their result; calls with arguments that are more than the contract asks; two ways at a test. -/
import Derived.Test.YtceoldiblphahaaGreatDoorMqI
set_option linter.unusedVariables false
set_option linter.unusedSimpArgs false
set_option linter.unusedSectionVars false
namespace Go.Mq
variable [GT]

/-- The result is X, the owned things are Y then. -/
def Ret (X : PV) (Y : List Ent) : PV → List Ent → Prop := fun r σ => r = X ∧ σ = Y

/-- A value of x is one of y. -/
def Wk (x y : PV) : Prop := ∀ (W : Own) (w : World) (v : Value), Rep W w v x → Rep W w v y
theorem Wk.refl (x : PV) : Wk x x := fun _ _ _ h => h
theorem Wk.own (u : Value) (cs : List PV) (n : Nat) : Wk (.own u cs n) (.slc cs n) := fun _ _ _ h => (rep_own h).2
theorem Wk.ful (cs : List PV) (n : Nat) : Wk (.ful cs n) (.slc cs n) := fun _ _ _ h => (rep_ful h).2
theorem Wk.nils : Wk .nils (.slc [] 0) := fun _ _ _ h => by rw [rep_nils h]; exact .slc0 _ _ _ (Nat.le_refl _)
theorem Wk.any1 {x : PV} (h : x.one = true) : Wk x .any1 := fun _ _ v hr => .any1 v (rep_one hr h)
inductive WkL : List PV → List PV → Prop where
  | nil : WkL [] []
  | cons {x y : PV} {xs ys : List PV} : Wk x y → WkL xs ys → WkL (x :: xs) (y :: ys)
theorem WkL.repL {W : Own} {w : World} {xs ys : List PV} (h : WkL xs ys) : ∀ {vs : List Value}, RepL W w vs xs → RepL W w vs ys := by
  induction h with
  | nil => exact fun h => h
  | cons h1 _ ih =>
    intro vs hv
    cases vs with
    | nil => have := hv.1; simp at this
    | cons v vs => exact RepL.cons (h1 W w v (hv.2 0 v _ rfl rfl)) (ih ⟨by have := hv.1; simpa using this, fun j u x hu hx => hv.2 (j + 1) u x (by simpa using hu) (by simpa using hx)⟩)

section
variable {P : Program} {N : Nat} {s : Nat → PV} {σ : List Ent}

theorem Callable.weak {f : FuncId} {args args' : List PV} {Q : PV → List Ent → Prop} (h : Callable P f args' σ Q) (hw : WkL args args') : Callable P f args σ Q :=
  ⟨h.1, fun K w vals hs hr => h.2 K w vals hs (hw.repL hr)⟩
theorem Callable.pure {f : FuncId} {args : List PV} {X : PV} (h : Callable P f args [] (Ret X [])) (σ : List Ent) : Callable P f args σ (Ret X σ) :=
  (h.frame σ).mono fun r σ' ⟨τ, e, h1, h2⟩ => ⟨h1, by rw [e, h2]; rfl⟩
theorem Callable.at_ {f : FuncId} {args : List PV} {X : PV} (pre post : List Ent) {τ τ' : List Ent} (h : Callable P f args τ (Ret X τ')) (hσ : σ = pre ++ τ ++ post) : Callable P f args σ (Ret X (pre ++ τ' ++ post)) := by
  subst hσ
  have h1 : Callable P f args (pre ++ τ ++ post) fun r σ'' => r = X ∧ σ''.Perm (pre ++ τ' ++ post) := by
    refine ((h.frame (pre ++ post)).perm (σ := pre ++ τ ++ post) ?_).mono fun r σ' ⟨σ'', e, h1, h2⟩ => ⟨h1, ?_⟩
    · rw [List.append_assoc]; exact (List.perm_append_comm_assoc _ _ _)
    · rw [e, h2, List.append_assoc]; exact (List.perm_append_comm_assoc _ _ _)
  refine ⟨h1.1, fun K w vals hs hr => (h1.2 K w vals hs hr).mono ?_⟩
  rintro e w' ⟨v, r, σ', rfl, ⟨rfl, hp⟩, hS, hR, hT⟩
  refine ⟨v, _, _, rfl, ⟨rfl, rfl⟩, hS.perm hp, ?_, ?_⟩
  · rw [← owns_perm_eq hp]; exact hR
  · rw [← owns_perm_eq hp]; exact hT
theorem Callable.ret {f : FuncId} {args : List PV} {X X' : PV} {Y Y' : List Ent} (h : Callable P f args σ (Ret X Y)) (hx : X = X') (hy : Y = Y') : Callable P f args σ (Ret X' Y') := by subst hx; subst hy; exact h

/-- One operation whose result is known. -/
theorem ExOps.opR {ops : Array Oper} {d : Nat} {op : Op} {ty : TypeId} {pos : String} {after : Array Edge} {rest : List Oper} {Q : (Nat → PV) → List Ent → Prop} {X : PV} {Y : List Ent} (h : OpOk P ⟨some d, op, ty, pos, after, none⟩ (pev s) σ (Ret X Y)) (hd : Nat.blt d N = true) (k : ExOps P N ops rest (upd s d X) Y Q) :
    ExOps P N ops (⟨some d, op, ty, pos, after, none⟩ :: rest) s σ Q := ExOps.op h hd (fun r σ' ⟨e1, e2⟩ => by rw [e1, e2]; exact k)
theorem ExOps.opR0 {ops : Array Oper} {op : Op} {ty : TypeId} {pos : String} {after : Array Edge} {rest : List Oper} {Q : (Nat → PV) → List Ent → Prop} {X : PV} {Y : List Ent} (h : OpOk P ⟨none, op, ty, pos, after, none⟩ (pev s) σ (Ret X Y)) (k : ExOps P N ops rest s Y Q) :
    ExOps P N ops (⟨none, op, ty, pos, after, none⟩ :: rest) s σ Q := ExOps.op0 h (fun r σ' ⟨e1, e2⟩ => by rw [e2]; exact k)
theorem ExOps.opRG {ops : Array Oper} {j d' d : Nat} {want : Bool} {op : Op} {ty : TypeId} {pos : String} {after : Array Edge} {rest : List Oper} {Q : (Nat → PV) → List Ent → Prop} {X : PV} {Y : List Ent} (hj : (ops[j]?).bind (·.dst) = some d') (hd' : Nat.blt d' N = true) (hb : s d' = .bool want)
    (h : OpOk P ⟨some d, op, ty, pos, after, some (j, want)⟩ (pev s) σ (Ret X Y)) (hd : Nat.blt d N = true) (k : ExOps P N ops rest (upd s d X) Y Q) : ExOps P N ops (⟨some d, op, ty, pos, after, some (j, want)⟩ :: rest) s σ Q :=
  ExOps.opG hj hd' hb h hd (fun r σ' ⟨e1, e2⟩ => by rw [e1, e2]; exact k)
/-- The value in another spelling. -/
theorem ExOps.calcE {T : TT} (hT : TOk P T) {ops : Array Oper} {d : Nat} {op : Op} {ty : TypeId} {pos : String} {after : Array Edge} {rest : List Oper} {Q : (Nat → PV) → List Ent → Prop} {r0 r : PV} (h : acalc T op (pev s) = some r0) (hd : Nat.blt d N = true) (e : r0 = r) (k : ExOps P N ops rest (upd s d r) σ Q) :
    ExOps P N ops (⟨some d, op, ty, pos, after, none⟩ :: rest) s σ Q := ExOps.calc hT (by rw [h, e]) hd k
theorem ExOps.calcGE {T : TT} (hT : TOk P T) {ops : Array Oper} {j d' d : Nat} {want : Bool} {op : Op} {ty : TypeId} {pos : String} {after : Array Edge} {rest : List Oper} {Q : (Nat → PV) → List Ent → Prop} {r0 r : PV} (hj : (ops[j]?).bind (·.dst) = some d') (hd' : Nat.blt d' N = true) (hb : s d' = .bool want)
    (h : acalc T op (pev s) = some r0) (hd : Nat.blt d N = true) (e : r0 = r) (k : ExOps P N ops rest (upd s d r) σ Q) : ExOps P N ops (⟨some d, op, ty, pos, after, some (j, want)⟩ :: rest) s σ Q := ExOps.calcG hT hj hd' hb (by rw [h, e]) hd k

def lenP (i : TI) (x : PV) : Option PV :=
  match i.desc, x with
  | .str, .str s => some (PV.int .i64 s.size)
  | .slice _, .slc _ n => some (.int .i64 n)
  | .slice _, .own _ _ n => some (.int .i64 n)
  | .slice _, .ful _ n => some (.int .i64 n)
  | .slice _, .arr _ _ n => some (.int .i64 n)
  | .slice _, .nils => some (.int .i64 (0 : Nat))
  | _, _ => none
theorem OpOk.len {T : TT} (hT : TOk P T) {o : Oper} {x : Operand} {t : TypeId} (ho : o.op = .call ⟨.builtin .len, #[x], #[t]⟩) {ρ : Operand → PV} {i : TI} (ht : T t = some i) {r : PV} (h : lenP i (ρ x) = some r) : OpOk P o ρ σ (Ret r σ) :=
  OpOk.lenOf hT ho rfl ht h

theorem OpOk.callP {o : Oper} {c : Call} (ho : o.op = .call c) {ρ : Operand → PV} {fx : Operand} (hc : c.callee = .value fx) {f : FuncId} {first captured : List PV} (hf : ρ fx = .func f first captured) {X : PV} {args' : List PV}
    (hw : WkL (first ++ c.args.toList.map ρ ++ captured) args') (h : Callable P f args' [] (Ret X [])) : OpOk P o ρ σ (Ret X σ) := OpOk.call ho hc hf (Callable.pure (h.weak hw) σ)
theorem OpOk.callA {o : Oper} {c : Call} (ho : o.op = .call c) {ρ : Operand → PV} {fx : Operand} (hc : c.callee = .value fx) {f : FuncId} {first captured : List PV} (hf : ρ fx = .func f first captured) (pre post : List Ent) {τ τ' : List Ent} {X : PV} {args' : List PV}
    (hw : WkL (first ++ c.args.toList.map ρ ++ captured) args') (h : Callable P f args' τ (Ret X τ')) (hσ : σ = pre ++ τ ++ post) : OpOk P o ρ σ (Ret X (pre ++ τ' ++ post)) := OpOk.call ho hc hf (Callable.at_ pre post (h.weak hw) hσ)

theorem Melt.weak {drop : List Ent} {x y z : PV} (h : Melt drop σ x y) (hw : Wk y z) : Melt drop σ x z := fun K w v hs hr => hw _ w v (h K w v hs hr)
theorem Melt.wk {drop : List Ent} {x y : PV} (hw : Wk x y) : Melt drop σ x y := fun K w v _ hr => hw _ w v (drop_sub hr)
theorem QRet.same {T : TT} {rs : List ResultVar} {X : PV} {Y : List Ent} {vs : List PV} (h : ResVL T σ s rs vs) (hx : packP vs = X) (hy : σ = Y) : QRet T rs (Ret X Y) .ret s σ := ⟨vs, [], σ, _, h, rfl, Melt.same _, hx, hy⟩
theorem QRet.sameN {T : TT} {rs : List ResultVar} {X : PV} {Y : List Ent} {vs : List PV} (h : ResVL T σ s rs vs) (hx : packP vs = X) (hy : σ = Y) : QRet T rs (Ret X Y) .normal s σ := ⟨vs, [], σ, _, h, rfl, Melt.same _, hx, hy⟩
theorem QRet.wk {T : TT} {rs : List ResultVar} {X : PV} {Y : List Ent} {vs : List PV} (h : ResVL T σ s rs vs) (hx : Wk (packP vs) X) (hy : σ = Y) : QRet T rs (Ret X Y) .ret s σ := ⟨vs, [], σ, _, h, rfl, Melt.wk (drop := []) hx, rfl, hy⟩
theorem QRet.melt {T : TT} {rs : List ResultVar} {X : PV} {Y : List Ent} {vs : List PV} (drop : List Ent) (h : ResVL T σ s rs vs) (hσ : σ = drop ++ Y) (hm : Melt drop Y (packP vs) X) : QRet T rs (Ret X Y) .ret s σ := ⟨vs, drop, Y, _, h, hσ, hm, rfl, rfl⟩
theorem ResV.tmpE {T : TT} {t : Nat} {v : PV} (h : s t = v) : ResV T σ s (.tmp t) v := by rw [← h]; exact .tmp t

/-- The end: what is still owned is let go. -/
theorem QRet.end_ {T : TT} {rs : List ResultVar} {X : PV} {vs : List PV} (h : ResVL T σ s rs vs) (hx : packP vs = X) : QRet T rs (Ret X []) .ret s σ := by subst hx; exact ⟨vs, σ, [], _, h, (List.append_nil _).symm, Melt.same _, rfl, rfl⟩
theorem QRet.endN {T : TT} {rs : List ResultVar} {X : PV} {vs : List PV} (h : ResVL T σ s rs vs) (hx : packP vs = X) : QRet T rs (Ret X []) .normal s σ := by subst hx; exact ⟨vs, σ, [], _, h, (List.append_nil _).symm, Melt.same _, rfl, rfl⟩
theorem QRet.fin {T : TT} {rs : List ResultVar} {Q : PV → List Ent → Prop} {e : Exit} (he : e = .normal ∨ e = .ret) {vs : List PV} {drop σ' : List Ent} {r : PV} (h : ResVL T σ s rs vs) (hσ : σ = drop ++ σ') (hm : Melt drop σ' (packP vs) r) (hq : Q r σ') : QRet T rs Q e s σ := by
  rcases he with rfl | rfl <;> exact ⟨vs, drop, σ', r, h, hσ, hm, hq⟩
theorem Ex.have_ {c : Code} {Q : Exit → (Nat → PV) → List Ent → Prop} {t : Nat} {v : PV} (h : s t = v) (k : Ex P N c (upd s t v) σ Q) : Ex P N c s σ Q := by rwa [upd_self h] at k
theorem QSeq.norm {c : Code} {Q : Exit → (Nat → PV) → List Ent → Prop} (h : Ex P N c s σ Q) : QSeq P N c Q .normal s σ := h
theorem QSeq.ret {c : Code} {Q : Exit → (Nat → PV) → List Ent → Prop} (h : Q .ret s σ) : QSeq P N c Q .ret s σ := h
theorem QSeq.exit {c : Code} {Q : Exit → (Nat → PV) → List Ent → Prop} {id : Nat} (h : Q (.exit id) s σ) : QSeq P N c Q (.exit id) s σ := h
theorem QBlock.norm {id : Nat} {Q : Exit → (Nat → PV) → List Ent → Prop} (h : Q .normal s σ) : QBlock id Q .normal s σ := h
theorem QBlock.ret {id : Nat} {Q : Exit → (Nat → PV) → List Ent → Prop} (h : Q .ret s σ) : QBlock id Q .ret s σ := h
theorem QBlock.hit {id i : Nat} {Q : Exit → (Nat → PV) → List Ent → Prop} (hi : Nat.beq i id = true) (h : Q .normal s σ) : QBlock id Q (.exit i) s σ := by
  have := Nat.eq_of_beq_eq_true hi; subst this
  simp only [QBlock, ↓reduceIte]; exact h
theorem QBlock.miss {id i : Nat} {Q : Exit → (Nat → PV) → List Ent → Prop} (hi : Nat.beq i id = false) (h : Q (.exit i) s σ) : QBlock id Q (.exit i) s σ := by
  have : ¬ i = id := fun e => by subst e; simp at hi
  simp only [QBlock, if_neg this]; exact h
theorem QLoop.next {I : Nat → (Nat → PV) → List Ent → Prop} {n : Nat} {Q : Exit → (Nat → PV) → List Ent → Prop} (m : Nat) (hm : m < n) (h : I m s σ) : QLoop I n Q .normal s σ := ⟨m, hm, h⟩
theorem QLoop.ret {I : Nat → (Nat → PV) → List Ent → Prop} {n : Nat} {Q : Exit → (Nat → PV) → List Ent → Prop} (h : Q .ret s σ) : QLoop I n Q .ret s σ := h
theorem QLoop.exit {I : Nat → (Nat → PV) → List Ent → Prop} {n : Nat} {Q : Exit → (Nat → PV) → List Ent → Prop} {id : Nat} (h : Q (.exit id) s σ) : QLoop I n Q (.exit id) s σ := h
theorem Ex.condT {c : Operand} {x y : Code} {Q : Exit → (Nat → PV) → List Ent → Prop} (hc : pev s c = .bool true) (k : Ex P N x s σ Q) : Ex P N (.cond c x y) s σ Q := Ex.cond hc (fun _ => k) (fun h => by cases h)
theorem Ex.condF {c : Operand} {x y : Code} {Q : Exit → (Nat → PV) → List Ent → Prop} (hc : pev s c = .bool false) (k : Ex P N y s σ Q) : Ex P N (.cond c x y) s σ Q := Ex.cond hc (fun h => by cases h) (fun _ => k)
theorem Ex.condD {c : Operand} {x y : Code} {Q : Exit → (Nat → PV) → List Ent → Prop} {p : Prop} {i : Decidable p} (hc : pev s c = .bool (@decide p i)) (ht : p → Ex P N x s σ Q) (hf : ¬ p → Ex P N y s σ Q) : Ex P N (.cond c x y) s σ Q := Ex.cond hc (fun h => ht (of_decide_eq_true h)) (fun h => hf (of_decide_eq_false h))
theorem Ex.condN {c : Operand} {x y : Code} {Q : Exit → (Nat → PV) → List Ent → Prop} {b : Bool} (hc : pev s c = .bool (!b)) (ht : b = false → Ex P N x s σ Q) (hf : b = true → Ex P N y s σ Q) : Ex P N (.cond c x y) s σ Q := Ex.cond hc (fun h => ht (by cases b <;> first | rfl | cases h)) (fun h => hf (by cases b <;> first | rfl | cases h))
theorem ExOps.guardD {ops : Array Oper} {o : Oper} {rest : List Oper} {Q : (Nat → PV) → List Ent → Prop} {j d : Nat} {want : Bool} {p : Prop} {i : Decidable p} (hg : o.guard = some (j, want)) (hj : (ops[j]?).bind (·.dst) = some d) (hb : s d = .bool (@decide p i))
    (hrun : p → ExOps P N ops (o :: rest) (upd s d (.bool true)) σ Q) (hskip : ¬ p → ExOps P N ops (o :: rest) (upd s d (.bool false)) σ Q) : ExOps P N ops (o :: rest) s σ Q := ExOps.guard hg hj hb (fun h => hrun (of_decide_eq_true h)) (fun h => hskip (of_decide_eq_false h))
theorem wrap_id {n : Int} (h0 : -9223372036854775808 ≤ n) (h1 : n ≤ 9223372036854775807) : IntKind.i64.wrap n = n := by
  rw [IntKind.wrap_i64]; omega

def MeltL (drop σ : List Ent) (xs ys : List PV) : Prop := xs.length = ys.length ∧ ∀ (j : Nat) (x y : PV), xs[j]? = some x → ys[j]? = some y → Melt drop σ x y
theorem MeltL.nil {drop : List Ent} : MeltL drop σ [] [] := ⟨rfl, fun j x y h => by simp at h⟩
theorem MeltL.cons {drop : List Ent} {x y : PV} {xs ys : List PV} (h : Melt drop σ x y) (t : MeltL drop σ xs ys) : MeltL drop σ (x :: xs) (y :: ys) :=
  ⟨by simp [t.1], fun j u v hu hv => by
    cases j with
    | zero => simp at hu hv; subst hu; subst hv; exact h
    | succ j => simp at hu hv; exact t.2 j u v hu hv⟩
theorem MeltL.same {drop : List Ent} (xs : List PV) : MeltL drop σ xs xs := ⟨rfl, fun j x y hx hy => by rw [hx] at hy; cases hy; exact Melt.same _⟩
theorem MeltL.rep {drop : List Ent} {xs ys : List PV} {K : Own} {w : World} (h : MeltL drop σ xs ys) (hs : Sep (drop ++ σ) K w) {c : Nat → Value} (hr : ∀ (j : Nat) (x : PV), xs[j]? = some x → Rep ((owns (drop ++ σ)).or K) w (c j) x) (j : Nat) (y : PV) (hy : ys[j]? = some y) : Rep ((owns σ).or K) w (c j) y := by
  have hj : j < xs.length := by rw [h.1]; exact (List.getElem?_eq_some_iff.1 hy).1
  exact h.2 j _ y (List.getElem?_eq_getElem hj) hy K w _ hs (hr j _ (List.getElem?_eq_getElem hj))
theorem Melt.tup {drop : List Ent} {xs ys : List PV} (h : MeltL drop σ xs ys) : Melt drop σ (.tup xs) (.tup ys) := fun K w v hs hr => by
  obtain ⟨vs, rfl, hl⟩ := rep_tup hr
  refine .tup (by have := hl.1; simp at this; rw [this]; exact h.1) (fun j u x hu hx => ?_)
  have hj : j < xs.length := by rw [h.1]; exact (List.getElem?_eq_some_iff.1 hx).1
  exact h.2 j _ x (List.getElem?_eq_getElem hj) hx K w u hs (hl.2 j u _ (by simpa using hu) (List.getElem?_eq_getElem hj))
theorem Melt.agg {drop : List Ent} {xs ys : List PV} (h : MeltL drop σ xs ys) : Melt drop σ (.agg xs) (.agg ys) := fun K w v hs hr => by
  obtain ⟨vs, rfl, hl⟩ := rep_agg hr
  refine .agg (by have := hl.1; simp at this; rw [this]; exact h.1) (fun j u x hu hx => ?_)
  have hj : j < xs.length := by rw [h.1]; exact (List.getElem?_eq_some_iff.1 hx).1
  exact h.2 j _ x (List.getElem?_eq_getElem hj) hx K w u hs (hl.2 j u _ (by simpa using hu) (List.getElem?_eq_getElem hj))
theorem drop_not {drop : List Ent} {K : Own} {b j : Nat} (h : ¬ ((owns (drop ++ σ)).or K) b j) : ¬ ((owns σ).or K) b j := fun h1 => h (h1.imp (fun h => owns_append.2 (.inr h)) id)
theorem Melt.slc {drop : List Ent} {xs ys : List PV} {n : Nat} (h : MeltL drop σ xs ys) : Melt drop σ (.slc xs n) (.slc ys n) := fun K w v hs hr => by
  cases hr with
  | slc0 a n cap hn =>
    have : ys = [] := List.eq_nil_of_length_eq_zero h.1.symm
    rw [this]; exact .slc0 _ _ _ hn
  | slc c hn hc hW hr => exact .slc c hn (fun j hj => hc j (by rw [h.1]; exact hj)) (fun j hj => drop_not (hW j (by rw [h.1]; exact hj))) (h.rep hs hr)
theorem Melt.own {drop : List Ent} {xs ys : List PV} {u : Value} {n : Nat} (h : MeltL drop σ xs ys) : Melt drop σ (.own u xs n) (.slc ys n) := fun K w v hs hr => Melt.slc h K w v hs (rep_own hr).2
theorem Melt.ful {drop : List Ent} {xs ys : List PV} {n : Nat} (h : MeltL drop σ xs ys) : Melt drop σ (.ful xs n) (.slc ys n) := fun K w v hs hr => Melt.slc h K w v hs (rep_ful hr).2
theorem Melt.ptr {drop : List Ent} {xs ys : List PV} (h : MeltL drop σ xs ys) : Melt drop σ (.ptr xs) (.ptr ys) := fun K w v hs hr => by
  cases hr with
  | ptr c hc hW hr => exact .ptr c (fun j hj => hc j (by rw [h.1]; exact hj)) (fun j hj => drop_not (hW j (by rw [h.1]; exact hj))) (h.rep hs hr)
/-- A block that was owned and is given away. -/
theorem Melt.loc {drop : List Ent} {b : Nat} {xs ys : List PV} (he : .cells b xs ∈ drop) (h : MeltL drop σ xs ys) : Melt drop σ (.loc b 0) (.ptr ys) := fun K w v hs hr => by
  rw [rep_loc hr]
  obtain ⟨arr, t, hb, hsz, hrep⟩ := hs.holds _ (List.mem_append_left _ he)
  refine .ptr (fun j => arr.getD j undef) (fun j hj => ?_) (fun j hj ho => ?_) (fun j y hy => ?_)
  · have : j < arr.size := by rw [hsz, h.1]; exact hj
    simp [World.cell?, hb, this]
  · rcases ho with ⟨e', he', ho⟩ | ho
    · exact (List.pairwise_append.1 hs.apart).2.2 _ he e' he' b (0 + j) rfl ho
    · exact hs.frame b (0 + j) ⟨_, List.mem_append_left _ he, rfl⟩ ho
  · have hj : j < xs.length := by rw [h.1]; exact (List.getElem?_eq_some_iff.1 hy).1
    have hj2 : j < arr.size := by rw [hsz]; exact hj
    exact h.2 j _ y (List.getElem?_eq_getElem hj) hy K w _ hs (hrep j _ _ (by simp [hj2]) (List.getElem?_eq_getElem hj))
theorem DEx.nil {ops : Array Oper} {E : List Ent} {M : List Nat} {Q : (Nat → PV) → List Ent → Prop} (h : Q s σ) : DEx P N ops E M Q [] s σ := h
end
end Go.Mq
