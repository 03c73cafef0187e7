/- The abstract layer, part E: contracts of operations, of code, of functions, over pure values and owned things; rules for straight code. -/
import Derived.Test.YtceoldiblphahaaGreatDoorMqD
import Derived.Tactics
set_option linter.unusedVariables false
set_option linter.unusedSimpArgs false
set_option linter.unusedSectionVars false
namespace Go.Mq
variable [GT]

def upd (s : Nat → PV) (t : Nat) (v : PV) : Nat → PV := fun i => bif Nat.beq i t then v else s i
def updO (s : Nat → PV) (d : Option Nat) (v : PV) : Nat → PV :=
  match d with
  | some d => upd s d v
  | none => s

def SlotRep (W : Own) (w : World) (a : Act) (s : Nat → PV) : Prop := ∀ t, Rep W w (a.tmps.getD t undef) (s t)

theorem SlotRep.eval {W : Own} {w : World} {a : Act} {s : Nat → PV} (h : SlotRep W w a s) (x : Operand) : Rep W w (a.eval x) (pev s x) := by
  cases x with
  | tmp t => exact h t
  | const v => exact rep_ofConst W w v
  | global g => exact .junk _
  | func f => exact .func rfl rfl (fun j u x hu => by simp at hu) (fun j u x hu => by simp at hu)
theorem SlotRep.put {W : Own} {w : World} {a : Act} {s : Nat → PV} (h : SlotRep W w a s) {d : Option Nat} {v : Value} {x : PV} (hd : ∀ t, d = some t → t < a.tmps.size) (hv : Rep W w v x) : SlotRep W w (a.put d v) (updO s d x) := by
  cases d with
  | none => exact h
  | some d =>
    intro t
    have hlt := hd d rfl
    simp only [Act.put, updO, upd]
    by_cases ht : t = d
    · subst ht
      simp only [Nat.beq_refl, cond_true]
      have : (a.tmps.setIfInBounds t v).getD t undef = v := by simp [hlt]
      rw [this]; exact hv
    · have hb : Nat.beq t d = false := by
        cases hq : Nat.beq t d
        · rfl
        · exact absurd (Nat.eq_of_beq_eq_true hq) ht
      simp only [hb, cond_false]
      have : (a.tmps.setIfInBounds d v).getD t undef = a.tmps.getD t undef := by
        simp [Array.getElem?_setIfInBounds_ne (Ne.symm ht)]
      rw [this]; exact h t
theorem SlotRep.trans {O O' K : Own} {w w' : World} {a : Act} {s : Nat → PV} (t : Trans O w w' O') (h : SlotRep (O.or K) w a s) : SlotRep (O'.or K) w' a s := fun i => (h i).trans t

/-- One operation: whatever it gives is of 'next'. -/
def OpOk (P : Program) (o : Oper) (ρ : Operand → PV) (σ : List Ent) (next : PV → List Ent → Prop) : Prop :=
  ∀ (K : Own) (a : Act) (w : World), Sep σ K w → (∀ x ∈ o.op.operands, Rep ((owns σ).or K) w (a.eval x) (ρ x)) → ∀ (kk : Act → World → Prop) (QQ : Exit → Act → World → Prop),
    (∀ v r σ' w', next r σ' → Sep σ' K w' → Rep ((owns σ').or K) w' v r → Trans (owns σ) w w' (owns σ') → kk (a.put o.dst v) w') → o.wp P a w kk QQ

/-- Code, from slots s and owned things σ: however it ends, Q. -/
def Ex (P : Program) (N : Nat) (c : Code) (s : Nat → PV) (σ : List Ent) (Q : Exit → (Nat → PV) → List Ent → Prop) : Prop :=
  ∀ (K : Own) (a : Act) (w : World), a.tmps.size = N → a.defers = [] → Sep σ K w → SlotRep ((owns σ).or K) w a s → ∀ QQ : Exit → Act → World → Prop,
    (∀ e a' w' s' σ', Q e s' σ' → a'.tmps.size = N → a'.defers = [] → Sep σ' K w' → SlotRep ((owns σ').or K) w' a' s' → Trans (owns σ) w w' (owns σ') → QQ e a' w') → c.wp P QQ a w

/-- Operations one behind the other. -/
def ExOps (P : Program) (N : Nat) (ops : Array Oper) (l : List Oper) (s : Nat → PV) (σ : List Ent) (Q : (Nat → PV) → List Ent → Prop) : Prop :=
  ∀ (K : Own) (a : Act) (w : World), a.tmps.size = N → a.defers = [] → Sep σ K w → SlotRep ((owns σ).or K) w a s → ∀ QQ : Exit → Act → World → Prop,
    (∀ a' w' s' σ', Q s' σ' → a'.tmps.size = N → a'.defers = [] → Sep σ' K w' → SlotRep ((owns σ').or K) w' a' s' → Trans (owns σ) w w' (owns σ') → QQ .normal a' w') → wpList P ops QQ l a w

/-- A function's contract. -/
def Callable (P : Program) (f : FuncId) (args : List PV) (σ : List Ent) (Q : PV → List Ent → Prop) : Prop :=
  (∃ fn, P.funcs[f]? = some fn ∧ fn.body.isSome = true ∧ (fn.name == "runtime.NumGoroutine") = false) ∧
  ∀ (K : Own) (w : World) (vals : Array Value), Sep σ K w → RepL ((owns σ).or K) w vals.toList args →
    Calls P f vals w fun e w' => ∃ v r σ', e = .returned v ∧ Q r σ' ∧ Sep σ' K w' ∧ Rep ((owns σ').or K) w' v r ∧ Trans (owns σ) w w' (owns σ')

section
variable {P : Program} {N : Nat} {s : Nat → PV} {σ : List Ent}

theorem Callable.mono {f : FuncId} {args : List PV} {Q Q' : PV → List Ent → Prop} (h : Callable P f args σ Q) (hq : ∀ r σ', Q r σ' → Q' r σ') : Callable P f args σ Q' :=
  ⟨h.1, fun K w vals hs hr => (h.2 K w vals hs hr).mono fun e w' ⟨v, r, σ', h1, h2, h3⟩ => ⟨v, r, σ', h1, hq _ _ h2, h3⟩⟩
theorem Callable.frame {f : FuncId} {args : List PV} {Q : PV → List Ent → Prop} (h : Callable P f args σ Q) (ρ : List Ent) : Callable P f args (σ ++ ρ) fun r σ'' => ∃ σ', σ'' = σ' ++ ρ ∧ Q r σ' := by
  refine ⟨h.1, fun K w vals hs hr => ?_⟩
  have hr' : RepL ((owns σ).or ((owns ρ).or K)) w vals.toList args := by
    rw [← or_assoc_own, ← owns_append_eq]; exact hr
  refine (h.2 _ w vals hs.split hr').mono ?_
  rintro e w' ⟨v, r, σ', rfl, hQ, hS, hR, hT⟩
  obtain ⟨j1, j2⟩ := Sep.join hs hS hT
  refine ⟨v, r, σ' ++ ρ, rfl, ⟨σ', rfl, hQ⟩, j1, ?_, j2⟩
  rw [owns_append_eq, or_assoc_own]; exact hR
theorem Callable.perm {f : FuncId} {args : List PV} {Q : PV → List Ent → Prop} {τ : List Ent} (h : Callable P f args τ Q) (hp : σ.Perm τ) : Callable P f args σ Q := by
  refine ⟨h.1, fun K w vals hs hr => ?_⟩
  have := h.2 K w vals (hs.perm hp) (by rw [← owns_perm_eq hp]; exact hr)
  rw [← owns_perm_eq hp] at this
  exact this

theorem OpOk.calc {T : TT} (hT : TOk P T) {o : Oper} {ρ : Operand → PV} {r : PV} (h : acalc T o.op ρ = some r) : OpOk P o ρ σ fun r' σ' => r' = r ∧ σ' = σ := by
  intro K a w hs hr kk QQ hk
  have hW : ∀ b j, ((owns σ).or K) b j → b < w.heap.size := fun b j h => by
    rcases h with h | h
    · exact hs.lt h
    · exact hs.bound b j h
  obtain ⟨v, w', h1, h2, h3⟩ := acalc_sound hT hW hr h
  unfold Oper.wp
  rw [h1, Oper.upon_value]
  exact hk v r σ w' ⟨rfl, rfl⟩ (h3.sep hs) h2 h3.to

theorem OpOk.mono {o : Oper} {ρ : Operand → PV} {n n' : PV → List Ent → Prop} (h : OpOk P o ρ σ n) (hn : ∀ r σ', n r σ' → n' r σ') : OpOk P o ρ σ n' :=
  fun K a w hs hr kk QQ hk => h K a w hs hr kk QQ fun v r σ' w' h1 h2 h3 h4 => hk v r σ' w' (hn _ _ h1) h2 h3 h4

theorem OpOk.call {o : Oper} {c : Call} (ho : o.op = .call c) {ρ : Operand → PV} {fx : Operand} (hc : c.callee = .value fx) {f : FuncId} {first captured : List PV} (hf : ρ fx = .func f first captured)
    {n : PV → List Ent → Prop} (h : Callable P f (first ++ c.args.toList.map ρ ++ captured) σ n) : OpOk P o ρ σ n := by
  intro K a w hs hr kk QQ hk
  obtain ⟨⟨fn, hfn, hb, hname⟩, hcall⟩ := h
  have hfx := hr fx (by rw [ho]; simp [Op.operands, Call.operands, hc])
  rw [hf] at hfx
  obtain ⟨vf, vc, hv, hl1, hl2⟩ := rep_func hfx
  have hname' : ¬ fn.name = "runtime.NumGoroutine" := by simpa using hname
  have hbn : ¬ fn.body = none := by cases hq : fn.body <;> simp_all
  have hrun : (execOp a.eval o).run P w = .ok (.enter f (vf ++ c.args.map a.eval ++ vc)) w := by
    simp [execOp, ho, resolve, hc, hv, Deferred.ofValue, invoke, callFunc, hfn, hname', hbn]
  unfold Oper.wp
  rw [hrun, Oper.upon_enter]
  have hargs : RepL ((owns σ).or K) w (vf ++ c.args.map a.eval ++ vc).toList (first ++ c.args.toList.map ρ ++ captured) := by
    simp only [Array.toList_append, Array.toList_map]
    refine (hl1.append ?_).append hl2
    refine ⟨by simp, fun j u x hu hx => ?_⟩
    rw [List.getElem?_map] at hu hx
    obtain ⟨y, hy, rfl⟩ := Option.map_eq_some_iff.1 hu
    rw [hy] at hx
    cases hx
    refine hr y ?_
    rw [ho]
    simp only [Op.operands, Call.operands, hc, Array.mem_append]
    exact .inr (by simpa using List.mem_of_getElem? hy)
  refine (hcall K w _ hs hargs).mono ?_
  rintro e w' ⟨v, r, σ', rfl, h1, h2, h3, h4⟩
  exact hk v r σ' w' h1 h2 h3 h4

/-- len -/
theorem OpOk.lenOf {T : TT} (hT : TOk P T) {o : Oper} {x : Operand} {t : TypeId} {c : Call} (ho : o.op = .call c) (hc : c = ⟨.builtin .len, #[x], #[t]⟩) {ρ : Operand → PV} {i : TI} (ht : T t = some i) {r : PV}
    (h : (match i.desc, ρ x with
      | .str, .str s => some (PV.int .i64 s.size)
      | .slice _, .slc _ n => some (.int .i64 n)
      | .slice _, .own _ _ n => some (.int .i64 n)
      | .slice _, .ful _ n => some (.int .i64 n)
      | .slice _, .arr _ _ n => some (.int .i64 n)
      | .slice _, .nils => some (.int .i64 (0 : Nat))
      | _, _ => none) = some r) : OpOk P o ρ σ fun r' σ' => r' = r ∧ σ' = σ := by
  intro K a w hs hr kk QQ hk
  subst hc
  have hx := hr x (by rw [ho]; simp [Op.operands, Call.operands])
  have hu := tt_und hT ht
  have fin : ∀ n : Nat, r = .int .i64 n → (Builtin.len_ #[t] o.type #[a.eval x]).run P w = .ok (goInt n) w → o.wp P a w kk QQ := fun n e hl => by
    have hrun : (execOp a.eval o).run P w = .ok (.value (goInt n)) w := by
      simp [execOp, ho, resolve, invoke, builtin, hl]
    unfold Oper.wp
    rw [hrun, Oper.upon_value]
    exact hk _ r σ w ⟨rfl, rfl⟩ hs (by rw [e]; exact .int _ _) (Trans.refl _ _)
  split at h
  · rename_i s hd h1
    rw [hd] at hu
    simp only [DescOk] at hu
    rw [h1] at hx
    cases h
    exact fin _ rfl (by simp [Builtin.len_, run_underlying' hu, rep_str hx])
  · rename_i e cs n hd h1
    rw [hd] at hu
    simp only [DescOk] at hu
    rw [h1] at hx
    cases h
    obtain ⟨A, cap, hv, _⟩ := rep_slc hx
    exact fin _ rfl (by simp [Builtin.len_, run_underlying' hu, hv])
  · rename_i e u cs n hd h1
    rw [hd] at hu
    simp only [DescOk] at hu
    rw [h1] at hx
    cases h
    obtain ⟨A, cap, hv, _⟩ := rep_slc (rep_own hx).2
    exact fin _ rfl (by simp [Builtin.len_, run_underlying' hu, hv])
  · rename_i e cs n hd h1
    rw [hd] at hu
    simp only [DescOk] at hu
    rw [h1] at hx
    cases h
    obtain ⟨A, cap, hv, _⟩ := rep_slc (rep_ful hx).2
    exact fin _ rfl (by simp [Builtin.len_, run_underlying' hu, hv])
  · rename_i e b off n hd h1
    rw [hd] at hu
    simp only [DescOk] at hu
    rw [h1] at hx
    cases h
    obtain ⟨cap, hv, _⟩ := rep_arr hx
    exact fin _ rfl (by simp [Builtin.len_, run_underlying' hu, hv])
  · rename_i e hd h1
    rw [hd] at hu
    simp only [DescOk] at hu
    rw [h1] at hx
    cases h
    exact fin _ rfl (by simp [Builtin.len_, run_underlying' hu, rep_nils hx])
  · cases h

theorem ExOps.nil {ops : Array Oper} {Q : (Nat → PV) → List Ent → Prop} (h : Q s σ) : ExOps P N ops [] s σ Q :=
  fun K a w hN hd hs hr QQ hq => hq a w s σ h hN hd hs hr (Trans.refl _ _)

theorem put_size (a : Act) (d : Option Nat) (v : Value) : (a.put d v).tmps.size = a.tmps.size := by cases d <;> simp [Act.put]
theorem put_defers (a : Act) (d : Option Nat) (v : Value) : (a.put d v).defers = a.defers := by cases d <;> rfl

theorem ExOps.run {ops : Array Oper} {o : Oper} {rest : List Oper} {Q : (Nat → PV) → List Ent → Prop} (hd : ∀ t, o.dst = some t → t < N) {n : PV → List Ent → Prop}
    (hn : OpOk P o (pev s) σ n) (h : ∀ r σ', n r σ' → ExOps P N ops rest (updO s o.dst r) σ' Q) {K : Own} {a : Act} {w : World} (hN : a.tmps.size = N) (hdf : a.defers = []) (hs : Sep σ K w) (hr : SlotRep ((owns σ).or K) w a s)
    {QQ : Exit → Act → World → Prop} (hq : ∀ a' w' s' σ', Q s' σ' → a'.tmps.size = N → a'.defers = [] → Sep σ' K w' → SlotRep ((owns σ').or K) w' a' s' → Trans (owns σ) w w' (owns σ') → QQ .normal a' w') : o.wp P a w (wpList P ops QQ rest) QQ := by
  refine hn K a w hs (fun x _ => hr.eval x) _ _ fun v r σ' w' h1 h2 h3 h4 => ?_
  refine h r σ' h1 K _ w' (by rw [put_size, hN]) (by rw [put_defers, hdf]) h2 ((hr.trans h4).put (fun t ht => by rw [hN]; exact hd t ht) h3) QQ fun a'' w'' s'' σ'' g1 g2 g3 g4 g5 g6 => ?_
  exact hq a'' w'' s'' σ'' g1 g2 g3 g4 g5 (h4.trans g6)

theorem ExOps.cons {ops : Array Oper} {o : Oper} {rest : List Oper} {Q : (Nat → PV) → List Ent → Prop} (hg : o.guard = none) (hd : ∀ t, o.dst = some t → t < N) {n : PV → List Ent → Prop}
    (hn : OpOk P o (pev s) σ n) (h : ∀ r σ', n r σ' → ExOps P N ops rest (updO s o.dst r) σ' Q) : ExOps P N ops (o :: rest) s σ Q := by
  intro K a w hN hdf hs hr QQ hq
  unfold wpList
  rw [if_pos (by simp [Region.wanted, hg])]
  exact .inl (ExOps.run hd hn h hN hdf hs hr hq)

/-- A guarded operation: the guard's own slot holds a bool. -/
theorem ExOps.consG {ops : Array Oper} {o : Oper} {rest : List Oper} {Q : (Nat → PV) → List Ent → Prop} {j d : Nat} {want b : Bool} (hg : o.guard = some (j, want)) (hj : (ops[j]?).bind (·.dst) = some d) (hdN : d < N) (hb : s d = .bool b)
    (hd : ∀ t, o.dst = some t → t < N) (hrun : b = want → ∃ n, OpOk P o (pev s) σ n ∧ ∀ r σ', n r σ' → ExOps P N ops rest (updO s o.dst r) σ' Q) (hskip : b = !want → ExOps P N ops rest (updO s o.dst .junk) σ Q) : ExOps P N ops (o :: rest) s σ Q := by
  intro K a w hN hdf hs hr QQ hq
  have hy : yielded ops a.tmps j = some b := by
    have h1 := hr d
    rw [hb] at h1
    have h2 := rep_bool h1
    have h3 : a.tmps[d]? = some (.bool b) := by
      have hlt : d < a.tmps.size := by omega
      simp [hlt] at h2 ⊢; exact h2
    simp [yielded, hj, h3]
  unfold wpList
  by_cases hw : b = want
  · rw [if_pos (by simp [Region.wanted, hg, hy, hw])]
    obtain ⟨n, hn, h⟩ := hrun hw
    exact .inl (ExOps.run hd hn h hN hdf hs hr hq)
  · rw [if_neg (by simp [Region.wanted, hg, hy, hw])]
    refine hskip (by cases b <;> cases want <;> simp_all) K _ w (by rw [put_size, hN]) (by rw [put_defers, hdf]) hs (hr.put (fun t ht => by rw [hN]; exact hd t ht) (.junk _)) QQ hq

theorem upd_self {s : Nat → PV} {d : Nat} {v : PV} (h : s d = v) : upd s d v = s := by
  funext i
  simp only [upd]
  cases hq : Nat.beq i d
  · rfl
  · simp only [cond_true]; rw [← h, Nat.eq_of_beq_eq_true hq]
/-- One plain operation that hangs on nothing owned. -/
theorem ExOps.calc {T : TT} (hT : TOk P T) {ops : Array Oper} {d : Nat} {op : Op} {ty : TypeId} {pos : String} {after : Array Edge} {rest : List Oper} {Q : (Nat → PV) → List Ent → Prop} {r : PV} (h : acalc T op (pev s) = some r) (hd : Nat.blt d N = true) (k : ExOps P N ops rest (upd s d r) σ Q) :
    ExOps P N ops (⟨some d, op, ty, pos, after, none⟩ :: rest) s σ Q :=
  ExOps.cons rfl (fun t ht => by cases ht; simpa [Nat.blt_eq] using hd) (OpOk.calc hT h) (fun r' σ' ⟨e1, e2⟩ => by rw [e1, e2]; exact k)
/-- One plain operation by its contract. -/
theorem ExOps.op {ops : Array Oper} {d : Nat} {op : Op} {ty : TypeId} {pos : String} {after : Array Edge} {rest : List Oper} {Q : (Nat → PV) → List Ent → Prop} {n : PV → List Ent → Prop} (h : OpOk P ⟨some d, op, ty, pos, after, none⟩ (pev s) σ n) (hd : Nat.blt d N = true) (k : ∀ r σ', n r σ' → ExOps P N ops rest (upd s d r) σ' Q) :
    ExOps P N ops (⟨some d, op, ty, pos, after, none⟩ :: rest) s σ Q :=
  ExOps.cons rfl (fun t ht => by cases ht; simpa [Nat.blt_eq] using hd) h k
/-- One plain operation without a result. -/
theorem ExOps.op0 {ops : Array Oper} {op : Op} {ty : TypeId} {pos : String} {after : Array Edge} {rest : List Oper} {Q : (Nat → PV) → List Ent → Prop} {n : PV → List Ent → Prop} (h : OpOk P ⟨none, op, ty, pos, after, none⟩ (pev s) σ n) (k : ∀ r σ', n r σ' → ExOps P N ops rest s σ' Q) :
    ExOps P N ops (⟨none, op, ty, pos, after, none⟩ :: rest) s σ Q :=
  ExOps.cons rfl (fun t ht => by cases ht) h k
/-- A guard that is not known yet: two ways. -/
theorem ExOps.guard {ops : Array Oper} {o : Oper} {rest : List Oper} {Q : (Nat → PV) → List Ent → Prop} {j d : Nat} {want b : Bool} (hg : o.guard = some (j, want)) (hj : (ops[j]?).bind (·.dst) = some d) (hb : s d = .bool b)
    (hrun : b = true → ExOps P N ops (o :: rest) (upd s d (.bool true)) σ Q) (hskip : b = false → ExOps P N ops (o :: rest) (upd s d (.bool false)) σ Q) : ExOps P N ops (o :: rest) s σ Q := by
  cases b
  · have := hskip rfl; rwa [upd_self hb] at this
  · have := hrun rfl; rwa [upd_self hb] at this
theorem ExOps.skipG {ops : Array Oper} {j d' d : Nat} {want : Bool} {op : Op} {ty : TypeId} {pos : String} {after : Array Edge} {rest : List Oper} {Q : (Nat → PV) → List Ent → Prop} (hj : (ops[j]?).bind (·.dst) = some d') (hd' : Nat.blt d' N = true) (hb : s d' = .bool (!want)) (hd : Nat.blt d N = true)
    (k : ExOps P N ops rest (upd s d .junk) σ Q) : ExOps P N ops (⟨some d, op, ty, pos, after, some (j, want)⟩ :: rest) s σ Q :=
  ExOps.consG (b := !want) rfl hj (by simpa [Nat.blt_eq] using hd') hb (fun t ht => by cases ht; simpa [Nat.blt_eq] using hd) (fun h => by cases want <;> cases h) (fun _ => k)
theorem ExOps.calcG {T : TT} (hT : TOk P T) {ops : Array Oper} {j d' d : Nat} {want : Bool} {op : Op} {ty : TypeId} {pos : String} {after : Array Edge} {rest : List Oper} {Q : (Nat → PV) → List Ent → Prop} {r : PV} (hj : (ops[j]?).bind (·.dst) = some d') (hd' : Nat.blt d' N = true) (hb : s d' = .bool want)
    (h : acalc T op (pev s) = some r) (hd : Nat.blt d N = true) (k : ExOps P N ops rest (upd s d r) σ Q) : ExOps P N ops (⟨some d, op, ty, pos, after, some (j, want)⟩ :: rest) s σ Q :=
  ExOps.consG (b := want) rfl hj (by simpa [Nat.blt_eq] using hd') hb (fun t ht => by cases ht; simpa [Nat.blt_eq] using hd) (fun _ => ⟨_, OpOk.calc hT h, fun r' σ' ⟨e1, e2⟩ => by rw [e1, e2]; exact k⟩) (fun h => by cases want <;> cases h)
theorem ExOps.opG {ops : Array Oper} {j d' d : Nat} {want : Bool} {op : Op} {ty : TypeId} {pos : String} {after : Array Edge} {rest : List Oper} {Q : (Nat → PV) → List Ent → Prop} {n : PV → List Ent → Prop} (hj : (ops[j]?).bind (·.dst) = some d') (hd' : Nat.blt d' N = true) (hb : s d' = .bool want)
    (h : OpOk P ⟨some d, op, ty, pos, after, some (j, want)⟩ (pev s) σ n) (hd : Nat.blt d N = true) (k : ∀ r σ', n r σ' → ExOps P N ops rest (upd s d r) σ' Q) : ExOps P N ops (⟨some d, op, ty, pos, after, some (j, want)⟩ :: rest) s σ Q :=
  ExOps.consG (b := want) rfl hj (by simpa [Nat.blt_eq] using hd') hb (fun t ht => by cases ht; simpa [Nat.blt_eq] using hd) (fun _ => ⟨n, h, k⟩) (fun h => by cases want <;> cases h)

theorem Ex.region {id : Nat} {l : List Oper} {Q : Exit → (Nat → PV) → List Ent → Prop} (h : ExOps P N l.toArray l s σ (Q .normal)) : Ex P N (.region id l.toArray false) s σ Q :=
  fun K a w hN hd hs hr QQ hq => wp_region_lit (h K a w hN hd hs hr QQ fun a' w' s' σ' h1 h2 h3 h4 h5 h6 => hq .normal a' w' s' σ' h1 h2 h3 h4 h5 h6)
theorem Ex.mono {c : Code} {Q Q' : Exit → (Nat → PV) → List Ent → Prop} (h : Ex P N c s σ Q) (hq : ∀ e s' σ', Q e s' σ' → Q' e s' σ') : Ex P N c s σ Q' :=
  fun K a w hN hd hs hr QQ hk => h K a w hN hd hs hr QQ fun e a' w' s' σ' h1 => hk e a' w' s' σ' (hq _ _ _ h1)

def QSeq (P : Program) (N : Nat) (c : Code) (Q : Exit → (Nat → PV) → List Ent → Prop) : Exit → (Nat → PV) → List Ent → Prop
  | .normal, s, σ => Ex P N c s σ Q
  | e, s, σ => Q e s σ
theorem Ex.seq {c d : Code} {Q : Exit → (Nat → PV) → List Ent → Prop} (h : Ex P N c s σ (QSeq P N d Q)) : Ex P N (.seq c d) s σ Q := by
  intro K a w hN hd hs hr QQ hq
  refine wp_seq (h K a w hN hd hs hr _ fun e a' w' s' σ' h1 h2 h3 h4 h5 h6 => ?_)
  cases e with
  | normal => exact h1 K a' w' h2 h3 h4 h5 QQ fun e a'' w'' s'' σ'' g1 g2 g3 g4 g5 g6 => hq e a'' w'' s'' σ'' g1 g2 g3 g4 g5 (h6.trans g6)
  | exit id => exact hq _ a' w' s' σ' h1 h2 h3 h4 h5 h6
  | goto l => exact hq _ a' w' s' σ' h1 h2 h3 h4 h5 h6
  | ret => exact hq _ a' w' s' σ' h1 h2 h3 h4 h5 h6
  | panic c => exact hq _ a' w' s' σ' h1 h2 h3 h4 h5 h6
  | outgrown => exact hq _ a' w' s' σ' h1 h2 h3 h4 h5 h6
theorem Ex.skip {Q : Exit → (Nat → PV) → List Ent → Prop} (h : Q .normal s σ) : Ex P N .skip s σ Q :=
  fun K a w hN hd hs hr QQ hq => wp_skip (hq _ a w s σ h hN hd hs hr (Trans.refl _ _))
theorem Ex.ret {Q : Exit → (Nat → PV) → List Ent → Prop} (h : Q .ret s σ) : Ex P N .ret s σ Q :=
  fun K a w hN hd hs hr QQ hq => wp_ret (hq _ a w s σ h hN hd hs hr (Trans.refl _ _))
theorem Ex.exit {id : Nat} {Q : Exit → (Nat → PV) → List Ent → Prop} (h : Q (.exit id) s σ) : Ex P N (.exit id) s σ Q :=
  fun K a w hN hd hs hr QQ hq => wp_exit (hq _ a w s σ h hN hd hs hr (Trans.refl _ _))
theorem Ex.cond {c : Operand} {x y : Code} {Q : Exit → (Nat → PV) → List Ent → Prop} {b : Bool} (hc : pev s c = .bool b) (ht : b = true → Ex P N x s σ Q) (hf : b = false → Ex P N y s σ Q) : Ex P N (.cond c x y) s σ Q := by
  intro K a w hN hd hs hr QQ hq
  have h1 := hr.eval c
  rw [hc] at h1
  refine wp_cond (t := b) (rep_bool h1) ?_
  cases b
  · exact hf rfl K a w hN hd hs hr QQ hq
  · exact ht rfl K a w hN hd hs hr QQ hq
def QBlock (id : Nat) (Q : Exit → (Nat → PV) → List Ent → Prop) : Exit → (Nat → PV) → List Ent → Prop
  | .exit i, s, σ => if i = id then Q .normal s σ else Q (.exit i) s σ
  | .goto _, _, _ => False
  | e, s, σ => Q e s σ
theorem Ex.block {id : Nat} {c : Code} {Q : Exit → (Nat → PV) → List Ent → Prop} (h : Ex P N c s σ (QBlock id Q)) : Ex P N (.block id c) s σ Q := by
  intro K a w hN hd hs hr QQ hq
  refine wp_block (h K a w hN hd hs hr _ fun e a' w' s' σ' h1 h2 h3 h4 h5 h6 => ?_)
  cases e with
  | exit i =>
    simp only [QBlock] at h1
    simp only [Exit.inBlock]
    split
    · rename_i hi; rw [if_pos hi] at h1; exact hq _ a' w' s' σ' h1 h2 h3 h4 h5 h6
    · rename_i hi; rw [if_neg hi] at h1; exact hq _ a' w' s' σ' h1 h2 h3 h4 h5 h6
  | goto l => exact h1.elim
  | normal => exact hq _ a' w' s' σ' h1 h2 h3 h4 h5 h6
  | ret => exact hq _ a' w' s' σ' h1 h2 h3 h4 h5 h6
  | panic c => exact hq _ a' w' s' σ' h1 h2 h3 h4 h5 h6
  | outgrown => exact hq _ a' w' s' σ' h1 h2 h3 h4 h5 h6

theorem exists_least (p : Nat → Prop) (h : ∃ n, p n) : ∃ n, p n ∧ ∀ m, p m → n ≤ m := by
  obtain ⟨n, hn⟩ := h
  induction n using Nat.strongRecOn with
  | _ n ih =>
    by_cases hs : ∃ m, m < n ∧ p m
    · obtain ⟨m, hm, hp⟩ := hs; exact ih m hm hp
    · exact ⟨n, hn, fun m hp => Nat.le_of_not_lt fun hlt => hs ⟨m, hlt, hp⟩⟩
def QLoop (I : Nat → (Nat → PV) → List Ent → Prop) (n : Nat) (Q : Exit → (Nat → PV) → List Ent → Prop) : Exit → (Nat → PV) → List Ent → Prop
  | .normal, s, σ => ∃ m, m < n ∧ I m s σ
  | e, s, σ => Q e s σ
/-- A loop: I n holds at each round's head, n goes down. -/
theorem Ex.loop {c : Code} {Q : Exit → (Nat → PV) → List Ent → Prop} (I : Nat → (Nat → PV) → List Ent → Prop) (n : Nat) (h0 : I n s σ) (h : ∀ n s σ, I n s σ → Ex P N c s σ (QLoop I n Q)) : Ex P N (.loop c) s σ Q := by
  intro K a w hN hd hs hr QQ hq
  let J : Nat → Act → World → Prop := fun n a' w' => ∃ s' σ', I n s' σ' ∧ a'.tmps.size = N ∧ a'.defers = [] ∧ Sep σ' K w' ∧ SlotRep ((owns σ').or K) w' a' s' ∧ Trans (owns σ) w w' (owns σ')
  classical
  let μ : Act → World → Nat := fun a' w' => if hj : ∃ n, J n a' w' then Classical.choose (exists_least _ hj) else 0
  refine wp_loop (fun a' w' => ∃ n, J n a' w') μ ⟨n, s, σ, h0, hN, hd, hs, hr, Trans.refl _ _⟩ ?_
  intro a' w' hj
  have hJ : J (μ a' w') a' w' := by
    show J (if hj : ∃ n, J n a' w' then Classical.choose (exists_least _ hj) else 0) a' w'
    rw [dif_pos hj]; exact (Classical.choose_spec (exists_least _ hj)).1
  obtain ⟨s', σ', hI, hN', hd', hs', hr', ht'⟩ := hJ
  refine h _ s' σ' hI K a' w' hN' hd' hs' hr' _ fun e a2 w2 s2 σ2 g1 g2 g3 g4 g5 g6 => ?_
  cases e with
  | normal =>
    obtain ⟨m, hm, hIm⟩ := g1
    have hJm : J m a2 w2 := ⟨s2, σ2, hIm, g2, g3, g4, g5, ht'.trans g6⟩
    refine ⟨⟨m, hJm⟩, Nat.lt_of_le_of_lt ?_ hm⟩
    show (if hj : ∃ n, J n a2 w2 then Classical.choose (exists_least _ hj) else 0) ≤ m
    rw [dif_pos ⟨m, hJm⟩]; exact (Classical.choose_spec (exists_least _ ⟨m, hJm⟩)).2 m hJm
  | exit i => exact hq _ a2 w2 s2 σ2 g1 g2 g3 g4 g5 (ht'.trans g6)
  | goto l => exact hq _ a2 w2 s2 σ2 g1 g2 g3 g4 g5 (ht'.trans g6)
  | ret => exact hq _ a2 w2 s2 σ2 g1 g2 g3 g4 g5 (ht'.trans g6)
  | panic c => exact hq _ a2 w2 s2 σ2 g1 g2 g3 g4 g5 (ht'.trans g6)
  | outgrown => exact hq _ a2 w2 s2 σ2 g1 g2 g3 g4 g5 (ht'.trans g6)

/-- What a value of x is too, once the things of 'drop' are owned no more. -/
def Melt (drop σ : List Ent) (x y : PV) : Prop := ∀ (K : Own) (w : World) (v : Value), Sep (drop ++ σ) K w → Rep ((owns (drop ++ σ)).or K) w v x → Rep ((owns σ).or K) w v y
theorem drop_sub {drop σ : List Ent} {K : Own} {w : World} {v : Value} {x : PV} (h : Rep ((owns (drop ++ σ)).or K) w v x) : Rep ((owns σ).or K) w v x :=
  h.step fun b j c hn hc => ⟨hc, fun h => hn (h.imp (fun h => owns_append.2 (.inr h)) id)⟩
theorem Sep.dropped {drop : List Ent} {K : Own} {w : World} (h : Sep (drop ++ σ) K w) : Sep σ K w := {
  holds := fun e he => Ent.holds_step (fun b j c hn hc => ⟨hc, fun h => hn (h.imp (fun h => owns_append.2 (.inr h)) id)⟩) (fun _ _ _ => rfl) (h.holds e (List.mem_append_right _ he)) (fun _ _ _ _ _ _ => rfl)
  apart := (List.pairwise_append.1 h.apart).2.1
  frame := fun b j ho => h.frame b j (owns_append.2 (.inr ho))
  bound := h.bound
  glob := fun g j p hg => ⟨(h.glob g j p hg).1, fun ho => (h.glob g j p hg).2.1 (owns_append.2 (.inr ho)), (h.glob g j p hg).2.2⟩ }

/-- The results at a return. -/
inductive ResV (T : TT) (σ : List Ent) (s : Nat → PV) : ResultVar → PV → Prop where
  | tmp (t : Nat) : ResV T σ s (.tmp t) (s t)
  | cell {a b off : Nat} {t : TypeId} {cs : List PV} {i : TI} {v : PV} (h1 : s a = .loc b off) (h2 : .cells b cs ∈ σ) (h3 : T t = some i) (h4 : aload i (cs.drop off) = some v) : ResV T σ s (.cell a t) v
inductive ResVL (T : TT) (σ : List Ent) (s : Nat → PV) : List ResultVar → List PV → Prop where
  | nil : ResVL T σ s [] []
  | cons {r : ResultVar} {v : PV} {rs : List ResultVar} {vs : List PV} (h : ResV T σ s r v) (t : ResVL T σ s rs vs) : ResVL T σ s (r :: rs) (v :: vs)
def packP : List PV → PV
  | [v] => v
  | vs => .tup vs
def packV : List Value → Value
  | [v] => v
  | vs => .tuple vs.toArray
def QRet (T : TT) (rs : List ResultVar) (Q : PV → List Ent → Prop) : Exit → (Nat → PV) → List Ent → Prop
  | .normal, s, σ | .ret, s, σ => ∃ vs drop σ' r, ResVL T σ s rs vs ∧ σ = drop ++ σ' ∧ Melt drop σ' (packP vs) r ∧ Q r σ'
  | _, _, _ => False

def argSlots (args : List PV) : Nat → PV := fun i => args.getD i .junk

def resSem (tmps : Array Value) : ResultVar → Sem Value
  | .tmp t => pure (tmps.getD t undef)
  | .cell a t => do loadVar t (← asAddr (tmps.getD a undef))
theorem results_eq (fn : Func) (tmps : Array Value) : results fn tmps = (fn.results.mapM (resSem tmps) >>= fun vs => pure (if h : vs.size = 1 then vs[0] else .tuple vs)) := by
  unfold results
  congr 1
theorem run_res {T : TT} (hT : TOk P T) {K : Own} {w : World} {a : Act} (hs : Sep σ K w) (hr : SlotRep ((owns σ).or K) w a s) {rs : List ResultVar} {vs : List PV} (h : ResVL T σ s rs vs) : ∃ us : List Value, (rs.mapM (resSem a.tmps)).run P w = .ok us w ∧ RepL ((owns σ).or K) w us vs := by
  induction h with
  | nil => exact ⟨[], rfl, RepL.nil⟩
  | @cons r v rs vs h _ ih =>
    obtain ⟨us, h1, h2⟩ := ih
    cases h with
    | tmp t =>
      refine ⟨a.tmps.getD t undef :: us, ?_, RepL.cons (hr t) h2⟩
      simp only [List.mapM_cons, resSem, Sem.run_bind, Sem.run_pure, Result.andThen_ok, h1]
    | @cell x b off t cs i v g1 g2 g3 g4 =>
      have h3 := hr x
      rw [g1] at h3
      have hv := rep_loc h3
      obtain ⟨arr, t', hb, hsz, hrep⟩ := hs.holds _ g2
      obtain ⟨u, hu, hru⟩ := loadVar_ptr (P := P) hT g3 (W := (owns σ).or K) (w := w) (b := b) (o := off) (cs := cs.drop off) (c := fun j => arr.getD (off + j) undef) (fun j hj => by
          simp at hj
          have : off + j < arr.size := by omega
          simp [World.cell?, hb, this]) (fun j x hx => by
          rw [List.getElem?_drop] at hx
          have hlt : off + j < arr.size := by have := (List.getElem?_eq_some_iff.1 hx).1; omega
          exact hrep (off + j) _ x (by simp [hlt]) hx) g4
      refine ⟨u :: us, ?_, RepL.cons hru h2⟩
      have hv' : (a.tmps.getD x undef) = .pointer (some ⟨b, off, none⟩) := hv
      simp only [List.mapM_cons, resSem, Sem.run_bind, hv', asAddr, Sem.run_pure, Result.andThen_ok, hu, h1]

theorem Callable.of_ex {T : TT} (hT : TOk P T) {f : FuncId} {fn : Func} {c : Code} {args : List PV} {Q : PV → List Ent → Prop} (rs : List ResultVar) (hf : P.funcs[f]? = some fn) (hb : fn.body = some c) (hn : (fn.name == "runtime.NumGoroutine") = false)
    (hres : fn.results = rs.toArray) (hle : args.length ≤ fn.ntmps) (h : Ex P fn.ntmps c (argSlots args) σ (QRet T rs Q)) : Callable P f args σ Q := by
  refine ⟨⟨fn, hf, by simp [hb], hn⟩, fun K w vals hs hr => ?_⟩
  have hsz : vals.size = args.length := by have := hr.1; simpa using this
  refine calls_of_wp hf hb (h K _ w (by simp; omega) rfl hs (fun t => ?_) _ fun e a' w' s' σ' h1 h2 h3 h4 h5 h6 => ?_)
  · by_cases ht : t < args.length
    · have e1 : (vals ++ Array.replicate (fn.ntmps - vals.size) undef).getD t undef = vals[t] := by
        simp [Array.getElem?_append, show t < vals.size by omega]
      have e2 : argSlots args t = args[t] := by simp [argSlots, ht]
      rw [e2]
      show Rep _ w ((vals ++ Array.replicate (fn.ntmps - vals.size) undef).getD t undef) _
      rw [e1]
      exact hr.2 t _ _ (by simp [show t < vals.size by omega]) (by simp [ht])
    · have e2 : argSlots args t = .junk := by simp [argSlots, List.getD, List.getElem?_eq_none (Nat.le_of_not_lt ht)]
      rw [e2]; exact .junk _
  · have fin : (∃ vs drop σ'' r, ResVL T σ' s' rs vs ∧ σ' = drop ++ σ'' ∧ Melt drop σ'' (packP vs) r ∧ Q r σ'') → a'.defers = [] ∧ ∃ v, (results fn a'.tmps).run P w' = .ok v w' ∧ ∃ v' r σ'', Ending.returned v = Ending.returned v' ∧ Q r σ'' ∧ Sep σ'' K w' ∧ Rep ((owns σ'').or K) w' v' r ∧ Trans (owns σ) w w' (owns σ'') := by
      rintro ⟨vs, drop, σ'', r, hv, rfl, hm, hQ⟩
      obtain ⟨us, hrun, hrl⟩ := run_res hT h4 h5 hv
      have hlen : us.length = vs.length := hrl.1
      have hpk : Rep ((owns (drop ++ σ'')).or K) w' (packV us) (packP vs) := by
        match us, vs, hrl with
        | [u], [v], hrl => exact hrl.2 0 u v rfl rfl
        | [], [], hrl => exact .tup rfl (fun j u x hu => by simp at hu)
        | u :: u2 :: us, v :: v2 :: vs, hrl => exact .tup (by have := hrl.1; simpa using this) (fun j x y hx hy => hrl.2 j x y (by simpa using hx) hy)
        | [], _ :: _, hrl => have := hrl.1; simp at this
        | _ :: _, [], hrl => have := hrl.1; simp at this
        | [_], _ :: _ :: _, hrl => have := hrl.1; simp at this
        | _ :: _ :: _, [_], hrl => have := hrl.1; simp at this
      have hfin : (results fn a'.tmps).run P w' = .ok (packV us) w' := by
        rw [results_eq, hres, Array.mapM_eq_mapM_toList]
        simp only [Sem.run_bind, Sem.run_map]
        rw [hrun]
        simp only [Result.andThen_ok, Sem.run_pure]
        congr 1
        match us with
        | [] => rfl
        | [u] => rfl
        | u :: u2 :: us => simp [packV]
      refine ⟨h3, _, hfin, _, r, σ'', rfl, hQ, h4.dropped, hm K w' _ h4 hpk, ⟨h6.os, h6.tape, h6.output, h6.size, h6.cell, h6.block, fun b j ho => h6.own b j (owns_append.2 (.inr ho))⟩⟩
    cases e with
    | normal => exact fin h1
    | ret => exact fin h1
    | exit i => exact h1.elim
    | goto l => exact h1.elim
    | panic c => exact h1.elim
    | outgrown => exact h1.elim

theorem Melt.same {drop : List Ent} (x : PV) : Melt drop σ x x := fun K w v _ h => drop_sub h
end
end Go.Mq
