/- The abstract layer, part L: a guarded group that ends in a pick, as one condition: the walk goes on in one way. -/
import Derived.Test.YtceoldiblphahaaGreatDoorMqJ
set_option linter.unusedVariables false
set_option linter.unusedSimpArgs false
set_option linter.unusedSectionVars false
namespace Go.Mq
variable [GT]

def WkS (s s' : Nat → PV) : Prop := ∀ t, Wk (s t) (s' t)
theorem WkS.refl (s : Nat → PV) : WkS s s := fun t => Wk.refl _
theorem WkS.upd {s s' : Nat → PV} {t : Nat} {x y : PV} (h : WkS s s') (hw : Wk x y) : WkS (Mq.upd s t x) (Mq.upd s' t y) := fun i => by
  simp only [Mq.upd]; cases Nat.beq i t <;> simp [h i, hw]
theorem WkS.updR {s s' : Nat → PV} {t : Nat} (h : WkS s s') : WkS s (Mq.upd s' t .junk) := fun i => by
  simp only [Mq.upd]; cases Nat.beq i t
  · exact h i
  · exact fun _ _ _ _ => .junk _
theorem Wk.junk {x : PV} : Wk x .junk := fun _ _ _ _ => .junk _
theorem WkS.trans {s s' s'' : Nat → PV} (h : WkS s s') (k : WkS s' s'') : WkS s s'' := fun t W w v hr => k t W w v (h t W w v hr)

section
variable {P : Program} {N : Nat} {s : Nat → PV} {σ : List Ent}

theorem Oper.wp_both {o : Oper} {a : Act} {w : World} {K K' : Act → World → Prop} {Q Q' : Exit → Act → World → Prop} (h : ∀ a w, K a w → K' a w) (hq : ∀ e a w, e ≠ .normal → Q e a w → Q' e a w)
    (hh : o.wp P a w K Q) : o.wp P a w K' Q' := by
  have hl : LetsOut Q → LetsOut Q' := fun ⟨a, w, hw⟩ => ⟨a, w, hq _ a w (by simp) hw⟩
  unfold Oper.wp at *
  generalize (execOp a.eval o).run P w = r at *
  cases r with
  | ok n w' =>
    cases n with
    | value v => exact h _ _ hh
    | skip => exact h _ _ hh
    | defer d => exact h _ _ hh
    | enter f args =>
      refine Calls.mono hh ?_
      intro e w' he
      cases e with
      | returned v => exact h _ _ he
      | panicked c => exact hq _ _ _ (by simp) he
      | outgrown => exact hl he
    | row r args => exact Rows.mono hh (fun v w' he => h _ _ he)
    | _ => exact hh
  | halt x w' =>
    cases x with
    | panic v => exact hq _ _ _ (by simp) hh
    | _ => exact hh

theorem wpList_append {ops : Array Oper} {QQ : Exit → Act → World → Prop} {rest : List Oper} : ∀ (g : List Oper) (a : Act) (w : World),
    wpList P ops (fun e a w => match e with | .normal => wpList P ops QQ rest a w | e => QQ e a w) g a w → wpList P ops QQ (g ++ rest) a w
  | [], a, w, h => h
  | o :: g, a, w, h => by
    simp only [wpList, List.cons_append] at h ⊢
    split
    · rename_i hw
      rw [if_pos hw] at h
      rcases h with h | ⟨h1, a', w', h2⟩
      · exact .inl (Oper.wp_both (fun a w => wpList_append g a w) (fun e a w he hq => by cases e <;> first | exact absurd rfl he | exact hq) h)
      · exact .inr ⟨h1, a', w', h2⟩
    · rename_i hw
      rw [if_neg hw] at h
      exact wpList_append g _ w h

theorem SlotRep.wk {W : Own} {w : World} {a : Act} {s s' : Nat → PV} (h : SlotRep W w a s) (hw : WkS s s') : SlotRep W w a s' := fun t => hw t W w _ (h t)
theorem ExOps.wk {ops : Array Oper} {l : List Oper} {s' : Nat → PV} {Q : (Nat → PV) → List Ent → Prop} (hw : WkS s s') (h : ExOps P N ops l s' σ Q) : ExOps P N ops l s σ Q :=
  fun K a w hN hd hs hr QQ hq => h K a w hN hd hs (hr.wk hw) QQ hq
theorem Ex.wk {c : Code} {s' : Nat → PV} {Q : Exit → (Nat → PV) → List Ent → Prop} (hw : WkS s s') (h : Ex P N c s' σ Q) : Ex P N c s σ Q :=
  fun K a w hN hd hs hr QQ hq => h K a w hN hd hs (hr.wk hw) QQ hq
theorem ExOps.mono {ops : Array Oper} {l : List Oper} {Q Q' : (Nat → PV) → List Ent → Prop} (h : ExOps P N ops l s σ Q) (hq : ∀ s' σ', Q s' σ' → Q' s' σ') : ExOps P N ops l s σ Q' :=
  fun K a w hN hd hs hr QQ hk => h K a w hN hd hs hr QQ fun a' w' s' σ' h1 => hk a' w' s' σ' (hq _ _ h1)
theorem ExOps.append {ops : Array Oper} {g rest : List Oper} {M Q : (Nat → PV) → List Ent → Prop} (h : ExOps P N ops g s σ M) (k : ∀ s' σ', M s' σ' → ExOps P N ops rest s' σ' Q) : ExOps P N ops (g ++ rest) s σ Q :=
  fun K a w hN hd hs hr QQ hq => wpList_append g a w (h K a w hN hd hs hr _ fun a' w' s' σ' h1 h2 h3 h4 h5 h6 =>
    k s' σ' h1 K a' w' h2 h3 h4 h5 QQ fun a'' w'' s'' σ'' g1 g2 g3 g4 g5 g6 => hq a'' w'' s'' σ'' g1 g2 g3 g4 g5 (h6.trans g6))

def junks (s : Nat → PV) : List Oper → Nat → PV
  | [] => s
  | o :: g => junks (updO s o.dst .junk) g
def plainG (g : List Oper) (N j d : Nat) (want : Bool) : Bool := g.all fun o => (match o.guard with | some (j', w') => Nat.beq j' j && (w' == want) | none => false) && (match o.dst with | some t => Nat.blt t N && !Nat.beq t d | none => true)
theorem junks_at {d : Nat} : ∀ (g : List Oper) (s : Nat → PV) {N j : Nat} {want : Bool}, plainG g N j d want = true → junks s g d = s d
  | [], _, _, _, _, _ => rfl
  | o :: g, s, N, j, want, h => by
    simp only [plainG, List.all_cons, Bool.and_eq_true] at h
    rw [junks, junks_at g _ (by simpa [plainG] using h.2)]
    cases hd : o.dst with
    | none => rfl
    | some t =>
      have := h.1.2
      rw [hd] at this
      simp only [Bool.and_eq_true, Bool.not_eq_true'] at this
      simp only [updO, upd]
      cases hq : Nat.beq d t
      · rfl
      · have e := Nat.eq_of_beq_eq_true hq
        subst e; simp at this
theorem ExOps.skips {ops : Array Oper} {j d : Nat} {want : Bool} {Q : (Nat → PV) → List Ent → Prop} (hj : (ops[j]?).bind (·.dst) = some d) (hdN : Nat.blt d N = true) : ∀ (g : List Oper) (s : Nat → PV), plainG g N j d want = true → s d = .bool (!want) →
    Q (junks s g) σ → ExOps P N ops g s σ Q
  | [], s, _, _, k => ExOps.nil k
  | o :: g, s, h, hb, k => by
    have h0 := h
    simp only [plainG, List.all_cons, Bool.and_eq_true] at h
    have hg : o.guard = some (j, want) := by
      have := h.1.1
      cases hq : o.guard with
      | none => rw [hq] at this; simp at this
      | some p =>
        obtain ⟨j', w'⟩ := p
        rw [hq] at this
        simp only [Bool.and_eq_true, beq_iff_eq] at this
        rw [Nat.eq_of_beq_eq_true this.1, this.2]
    have hds : ∀ t, o.dst = some t → t < N ∧ t ≠ d := fun t ht => by
      have := h.1.2
      rw [ht] at this
      simp only [Bool.and_eq_true, Nat.blt_eq, Bool.not_eq_true'] at this
      refine ⟨this.1, fun e => ?_⟩
      subst e; simp at this
    refine ExOps.consG hg hj (by simpa [Nat.blt_eq] using hdN) hb (fun t ht => (hds t ht).1) (fun e => by cases want <;> cases e) (fun _ => ?_)
    refine ExOps.skips hj hdN g _ (by simpa [plainG] using h.2) ?_ k
    cases hd : o.dst with
    | none => exact hb
    | some t =>
      simp only [updO, upd]
      cases hq : Nat.beq d t
      · exact hb
      · exact absurd (Nat.eq_of_beq_eq_true hq).symm (hds t hd).2

theorem pick_calc {T : TT} {d : Nat} {x y : Operand} {b : Bool} {r : PV} (hb : s d = .bool b) (hr : (match b with | true => pev s x | false => pev s y) = r) : acalc T (.pick (.tmp d) x y) (pev s) = some r := by
  simp only [acalc, pev, hb]
  cases b <;> simp only at hr <;> rw [← hr] <;> rfl

/-- 'p && q', 'p || q', q behind a guard. -/
theorem ExOps.fork {T : TT} (hT : TOk P T) {ops : Array Oper} (g : List Oper) {rest : List Oper} {Q : (Nat → PV) → List Ent → Prop} {j d x dp : Nat} {y z : Operand} {ty : TypeId} {pos : String} {after : Array Edge} {want b c e : Bool}
    (hyz : (y, z) = bif want then (.tmp x, .const (.bool false)) else (.const (.bool true), .tmp x))
    (hg : plainG g N j d want = true) (hj : (ops[j]?).bind (·.dst) = some d) (hdN : Nat.blt d N = true) (hdp : Nat.blt dp N = true) (hxd : Nat.beq d x = false) (hb : s d = .bool b)
    (h1 : b = want → ExOps P N ops g (upd s d (.bool want)) σ fun s' σ' => s' x = .bool c ∧ WkS s' (junks (upd s d (.bool want)) g) ∧ σ' = σ)
    (he : e = bif want then b && c else b || c)
    (k : ExOps P N ops rest (upd (upd (junks s g) x .junk) dp (.bool e)) σ Q) :
    ExOps P N ops (g ++ ⟨some dp, .pick (.tmp d) y z, ty, pos, after, none⟩ :: rest) s σ Q := by
  by_cases h : b = want
  · have e : upd s d (.bool want) = s := upd_self (by rw [hb, h])
    have h2 := h1 h
    rw [e] at h2
    refine ExOps.append h2 ?_
    rintro s' σ' ⟨e1, hw, rfl⟩
    refine ExOps.wk (s' := upd (junks s g) x (.bool c)) (fun t => ?_) ?_
    · simp only [upd]
      cases hq : Nat.beq t x
      · exact hw t
      · rw [Nat.eq_of_beq_eq_true hq, e1]; exact Wk.refl _
    have hd2 : upd (junks s g) x (.bool c) d = .bool b := by
      simp only [upd, hxd, cond_false]; rw [junks_at g s hg]; exact hb
    have hx2 : upd (junks s g) x (.bool c) x = .bool c := by simp [upd]
    refine ExOps.calc hT (r := .bool c) (pick_calc hd2 ?_) hdp ?_
    · subst h
      cases b <;> simp only [cond_true, cond_false, Prod.mk.injEq] at hyz <;> rw [hyz.1, hyz.2] <;> exact hx2
    · refine ExOps.wk (WkS.upd (WkS.upd (WkS.refl _) Wk.junk) ?_) k
      rw [he]; subst h; cases b <;> exact Wk.refl _
  · have hb' : s d = .bool (!want) := by rw [hb]; cases b <;> cases want <;> simp_all
    refine ExOps.append (M := fun s' σ' => s' = junks s g ∧ σ' = σ) (ExOps.skips hj hdN g s hg hb' ⟨rfl, rfl⟩) ?_
    rintro _ _ ⟨rfl, rfl⟩
    have hd2 : junks s g d = .bool b := by rw [junks_at g s hg]; exact hb
    refine ExOps.calc hT (r := .bool b) (pick_calc hd2 ?_) hdp ?_
    · cases b <;> cases want <;> simp only [cond_true, cond_false, Prod.mk.injEq, not_true] at hyz h <;> rw [hyz.1, hyz.2] <;> rfl
    · refine ExOps.wk (WkS.upd (WkS.updR (WkS.refl _)) ?_) k
      rw [he]; cases b <;> cases want <;> first | exact Wk.refl _ | simp at h
theorem andB {b c : Bool} {p q : Prop} {i : Decidable p} {j : Decidable q} (hb : b = @decide p i) (hc : c = @decide q j) : @decide (p ∧ q) (@instDecidableAnd _ _ i j) = (bif true then b && c else b || c) := by subst hb; subst hc; simp
theorem orB {b c : Bool} {p q : Prop} {i : Decidable p} {j : Decidable q} (hb : b = @decide p i) (hc : c = @decide q j) : @decide (p ∨ q) (@instDecidableOr _ _ i j) = (bif false then b && c else b || c) := by subst hb; subst hc; simp
theorem isDec (b : Bool) : b = decide (b = true) := by simp
theorem ExOps.and1 {T : TT} (hT : TOk P T) {ops : Array Oper} {o1 : Oper} {rest : List Oper} {Q : (Nat → PV) → List Ent → Prop} {j d x dp : Nat} {ty : TypeId} {pos : String} {after : Array Edge} {b c : Bool} {p q : Prop} {i : Decidable p} {i2 : Decidable q}
    (hb : s d = .bool b) (h0 : o1.guard = some (j, true)) (hj : (ops[j]?).bind (·.dst) = some d) (hg : plainG [o1] N j d true = true) (hdN : Nat.blt d N = true) (hdp : Nat.blt dp N = true) (hxd : Nat.beq d x = false) (hp : b = @decide p i)
    (h1 : p → ExOps P N ops [o1] (upd s d (.bool true)) σ fun s' σ' => s' x = .bool c ∧ c = @decide q i2 ∧ WkS s' (junks (upd s d (.bool true)) [o1]) ∧ σ' = σ)
    (k : ExOps P N ops rest (upd (upd (junks s [o1]) x .junk) dp (.bool (@decide (p ∧ q) (@instDecidableAnd _ _ i i2)))) σ Q) :
    ExOps P N ops (o1 :: ⟨some dp, .pick (.tmp d) (.tmp x) (.const (.bool false)), ty, pos, after, none⟩ :: rest) s σ Q := by
  subst hp
  exact ExOps.fork hT [o1] rfl hg hj hdN hdp hxd hb (c := @decide q i2) (fun h => (h1 (by simpa using h)).mono fun s' σ' ⟨e1, e2, e3⟩ => ⟨by rw [e1, e2], e3⟩) (andB rfl rfl) k
theorem ExOps.or1 {T : TT} (hT : TOk P T) {ops : Array Oper} {o1 : Oper} {rest : List Oper} {Q : (Nat → PV) → List Ent → Prop} {j d x dp : Nat} {ty : TypeId} {pos : String} {after : Array Edge} {b c : Bool} {p q : Prop} {i : Decidable p} {i2 : Decidable q}
    (hb : s d = .bool b) (h0 : o1.guard = some (j, false)) (hj : (ops[j]?).bind (·.dst) = some d) (hg : plainG [o1] N j d false = true) (hdN : Nat.blt d N = true) (hdp : Nat.blt dp N = true) (hxd : Nat.beq d x = false) (hp : b = @decide p i)
    (h1 : ¬ p → ExOps P N ops [o1] (upd s d (.bool false)) σ fun s' σ' => s' x = .bool c ∧ c = @decide q i2 ∧ WkS s' (junks (upd s d (.bool false)) [o1]) ∧ σ' = σ)
    (k : ExOps P N ops rest (upd (upd (junks s [o1]) x .junk) dp (.bool (@decide (p ∨ q) (@instDecidableOr _ _ i i2)))) σ Q) :
    ExOps P N ops (o1 :: ⟨some dp, .pick (.tmp d) (.const (.bool true)) (.tmp x), ty, pos, after, none⟩ :: rest) s σ Q := by
  subst hp
  exact ExOps.fork hT [o1] rfl hg hj hdN hdp hxd hb (c := @decide q i2) (fun h => (h1 (by simpa using h)).mono fun s' σ' ⟨e1, e2, e3⟩ => ⟨by rw [e1, e2], e3⟩) (orB rfl rfl) k
theorem ExOps.and2 {T : TT} (hT : TOk P T) {ops : Array Oper} {o1 o2 : Oper} {rest : List Oper} {Q : (Nat → PV) → List Ent → Prop} {j d x dp : Nat} {ty : TypeId} {pos : String} {after : Array Edge} {b c : Bool} {p q : Prop} {i : Decidable p} {i2 : Decidable q}
    (hb : s d = .bool b) (h0 : o1.guard = some (j, true)) (hj : (ops[j]?).bind (·.dst) = some d) (hg : plainG [o1, o2] N j d true = true) (hdN : Nat.blt d N = true) (hdp : Nat.blt dp N = true) (hxd : Nat.beq d x = false) (hp : b = @decide p i)
    (h1 : p → ExOps P N ops [o1, o2] (upd s d (.bool true)) σ fun s' σ' => s' x = .bool c ∧ c = @decide q i2 ∧ WkS s' (junks (upd s d (.bool true)) [o1, o2]) ∧ σ' = σ)
    (k : ExOps P N ops rest (upd (upd (junks s [o1, o2]) x .junk) dp (.bool (@decide (p ∧ q) (@instDecidableAnd _ _ i i2)))) σ Q) :
    ExOps P N ops (o1 :: o2 :: ⟨some dp, .pick (.tmp d) (.tmp x) (.const (.bool false)), ty, pos, after, none⟩ :: rest) s σ Q := by
  subst hp
  exact ExOps.fork hT [o1, o2] rfl hg hj hdN hdp hxd hb (c := @decide q i2) (fun h => (h1 (by simpa using h)).mono fun s' σ' ⟨e1, e2, e3⟩ => ⟨by rw [e1, e2], e3⟩) (andB rfl rfl) k
theorem ExOps.or2 {T : TT} (hT : TOk P T) {ops : Array Oper} {o1 o2 : Oper} {rest : List Oper} {Q : (Nat → PV) → List Ent → Prop} {j d x dp : Nat} {ty : TypeId} {pos : String} {after : Array Edge} {b c : Bool} {p q : Prop} {i : Decidable p} {i2 : Decidable q}
    (hb : s d = .bool b) (h0 : o1.guard = some (j, false)) (hj : (ops[j]?).bind (·.dst) = some d) (hg : plainG [o1, o2] N j d false = true) (hdN : Nat.blt d N = true) (hdp : Nat.blt dp N = true) (hxd : Nat.beq d x = false) (hp : b = @decide p i)
    (h1 : ¬ p → ExOps P N ops [o1, o2] (upd s d (.bool false)) σ fun s' σ' => s' x = .bool c ∧ c = @decide q i2 ∧ WkS s' (junks (upd s d (.bool false)) [o1, o2]) ∧ σ' = σ)
    (k : ExOps P N ops rest (upd (upd (junks s [o1, o2]) x .junk) dp (.bool (@decide (p ∨ q) (@instDecidableOr _ _ i i2)))) σ Q) :
    ExOps P N ops (o1 :: o2 :: ⟨some dp, .pick (.tmp d) (.const (.bool true)) (.tmp x), ty, pos, after, none⟩ :: rest) s σ Q := by
  subst hp
  exact ExOps.fork hT [o1, o2] rfl hg hj hdN hdp hxd hb (c := @decide q i2) (fun h => (h1 (by simpa using h)).mono fun s' σ' ⟨e1, e2, e3⟩ => ⟨by rw [e1, e2], e3⟩) (orB rfl rfl) k
theorem ExOps.and3 {T : TT} (hT : TOk P T) {ops : Array Oper} {o1 o2 o3 : Oper} {rest : List Oper} {Q : (Nat → PV) → List Ent → Prop} {j d x dp : Nat} {ty : TypeId} {pos : String} {after : Array Edge} {b c : Bool} {p q : Prop} {i : Decidable p} {i2 : Decidable q}
    (hb : s d = .bool b) (h0 : o1.guard = some (j, true)) (hj : (ops[j]?).bind (·.dst) = some d) (hg : plainG [o1, o2, o3] N j d true = true) (hdN : Nat.blt d N = true) (hdp : Nat.blt dp N = true) (hxd : Nat.beq d x = false) (hp : b = @decide p i)
    (h1 : p → ExOps P N ops [o1, o2, o3] (upd s d (.bool true)) σ fun s' σ' => s' x = .bool c ∧ c = @decide q i2 ∧ WkS s' (junks (upd s d (.bool true)) [o1, o2, o3]) ∧ σ' = σ)
    (k : ExOps P N ops rest (upd (upd (junks s [o1, o2, o3]) x .junk) dp (.bool (@decide (p ∧ q) (@instDecidableAnd _ _ i i2)))) σ Q) :
    ExOps P N ops (o1 :: o2 :: o3 :: ⟨some dp, .pick (.tmp d) (.tmp x) (.const (.bool false)), ty, pos, after, none⟩ :: rest) s σ Q := by
  subst hp
  exact ExOps.fork hT [o1, o2, o3] rfl hg hj hdN hdp hxd hb (c := @decide q i2) (fun h => (h1 (by simpa using h)).mono fun s' σ' ⟨e1, e2, e3⟩ => ⟨by rw [e1, e2], e3⟩) (andB rfl rfl) k
theorem ExOps.or3 {T : TT} (hT : TOk P T) {ops : Array Oper} {o1 o2 o3 : Oper} {rest : List Oper} {Q : (Nat → PV) → List Ent → Prop} {j d x dp : Nat} {ty : TypeId} {pos : String} {after : Array Edge} {b c : Bool} {p q : Prop} {i : Decidable p} {i2 : Decidable q}
    (hb : s d = .bool b) (h0 : o1.guard = some (j, false)) (hj : (ops[j]?).bind (·.dst) = some d) (hg : plainG [o1, o2, o3] N j d false = true) (hdN : Nat.blt d N = true) (hdp : Nat.blt dp N = true) (hxd : Nat.beq d x = false) (hp : b = @decide p i)
    (h1 : ¬ p → ExOps P N ops [o1, o2, o3] (upd s d (.bool false)) σ fun s' σ' => s' x = .bool c ∧ c = @decide q i2 ∧ WkS s' (junks (upd s d (.bool false)) [o1, o2, o3]) ∧ σ' = σ)
    (k : ExOps P N ops rest (upd (upd (junks s [o1, o2, o3]) x .junk) dp (.bool (@decide (p ∨ q) (@instDecidableOr _ _ i i2)))) σ Q) :
    ExOps P N ops (o1 :: o2 :: o3 :: ⟨some dp, .pick (.tmp d) (.const (.bool true)) (.tmp x), ty, pos, after, none⟩ :: rest) s σ Q := by
  subst hp
  exact ExOps.fork hT [o1, o2, o3] rfl hg hj hdN hdp hxd hb (c := @decide q i2) (fun h => (h1 (by simpa using h)).mono fun s' σ' ⟨e1, e2, e3⟩ => ⟨by rw [e1, e2], e3⟩) (orB rfl rfl) k
theorem ExOps.and4 {T : TT} (hT : TOk P T) {ops : Array Oper} {o1 o2 o3 o4 : Oper} {rest : List Oper} {Q : (Nat → PV) → List Ent → Prop} {j d x dp : Nat} {ty : TypeId} {pos : String} {after : Array Edge} {b c : Bool} {p q : Prop} {i : Decidable p} {i2 : Decidable q}
    (hb : s d = .bool b) (h0 : o1.guard = some (j, true)) (hj : (ops[j]?).bind (·.dst) = some d) (hg : plainG [o1, o2, o3, o4] N j d true = true) (hdN : Nat.blt d N = true) (hdp : Nat.blt dp N = true) (hxd : Nat.beq d x = false) (hp : b = @decide p i)
    (h1 : p → ExOps P N ops [o1, o2, o3, o4] (upd s d (.bool true)) σ fun s' σ' => s' x = .bool c ∧ c = @decide q i2 ∧ WkS s' (junks (upd s d (.bool true)) [o1, o2, o3, o4]) ∧ σ' = σ)
    (k : ExOps P N ops rest (upd (upd (junks s [o1, o2, o3, o4]) x .junk) dp (.bool (@decide (p ∧ q) (@instDecidableAnd _ _ i i2)))) σ Q) :
    ExOps P N ops (o1 :: o2 :: o3 :: o4 :: ⟨some dp, .pick (.tmp d) (.tmp x) (.const (.bool false)), ty, pos, after, none⟩ :: rest) s σ Q := by
  subst hp
  exact ExOps.fork hT [o1, o2, o3, o4] rfl hg hj hdN hdp hxd hb (c := @decide q i2) (fun h => (h1 (by simpa using h)).mono fun s' σ' ⟨e1, e2, e3⟩ => ⟨by rw [e1, e2], e3⟩) (andB rfl rfl) k
theorem ExOps.or4 {T : TT} (hT : TOk P T) {ops : Array Oper} {o1 o2 o3 o4 : Oper} {rest : List Oper} {Q : (Nat → PV) → List Ent → Prop} {j d x dp : Nat} {ty : TypeId} {pos : String} {after : Array Edge} {b c : Bool} {p q : Prop} {i : Decidable p} {i2 : Decidable q}
    (hb : s d = .bool b) (h0 : o1.guard = some (j, false)) (hj : (ops[j]?).bind (·.dst) = some d) (hg : plainG [o1, o2, o3, o4] N j d false = true) (hdN : Nat.blt d N = true) (hdp : Nat.blt dp N = true) (hxd : Nat.beq d x = false) (hp : b = @decide p i)
    (h1 : ¬ p → ExOps P N ops [o1, o2, o3, o4] (upd s d (.bool false)) σ fun s' σ' => s' x = .bool c ∧ c = @decide q i2 ∧ WkS s' (junks (upd s d (.bool false)) [o1, o2, o3, o4]) ∧ σ' = σ)
    (k : ExOps P N ops rest (upd (upd (junks s [o1, o2, o3, o4]) x .junk) dp (.bool (@decide (p ∨ q) (@instDecidableOr _ _ i i2)))) σ Q) :
    ExOps P N ops (o1 :: o2 :: o3 :: o4 :: ⟨some dp, .pick (.tmp d) (.const (.bool true)) (.tmp x), ty, pos, after, none⟩ :: rest) s σ Q := by
  subst hp
  exact ExOps.fork hT [o1, o2, o3, o4] rfl hg hj hdN hdp hxd hb (c := @decide q i2) (fun h => (h1 (by simpa using h)).mono fun s' σ' ⟨e1, e2, e3⟩ => ⟨by rw [e1, e2], e3⟩) (orB rfl rfl) k
theorem ExOps.and5 {T : TT} (hT : TOk P T) {ops : Array Oper} {o1 o2 o3 o4 o5 : Oper} {rest : List Oper} {Q : (Nat → PV) → List Ent → Prop} {j d x dp : Nat} {ty : TypeId} {pos : String} {after : Array Edge} {b c : Bool} {p q : Prop} {i : Decidable p} {i2 : Decidable q}
    (hb : s d = .bool b) (h0 : o1.guard = some (j, true)) (hj : (ops[j]?).bind (·.dst) = some d) (hg : plainG [o1, o2, o3, o4, o5] N j d true = true) (hdN : Nat.blt d N = true) (hdp : Nat.blt dp N = true) (hxd : Nat.beq d x = false) (hp : b = @decide p i)
    (h1 : p → ExOps P N ops [o1, o2, o3, o4, o5] (upd s d (.bool true)) σ fun s' σ' => s' x = .bool c ∧ c = @decide q i2 ∧ WkS s' (junks (upd s d (.bool true)) [o1, o2, o3, o4, o5]) ∧ σ' = σ)
    (k : ExOps P N ops rest (upd (upd (junks s [o1, o2, o3, o4, o5]) x .junk) dp (.bool (@decide (p ∧ q) (@instDecidableAnd _ _ i i2)))) σ Q) :
    ExOps P N ops (o1 :: o2 :: o3 :: o4 :: o5 :: ⟨some dp, .pick (.tmp d) (.tmp x) (.const (.bool false)), ty, pos, after, none⟩ :: rest) s σ Q := by
  subst hp
  exact ExOps.fork hT [o1, o2, o3, o4, o5] rfl hg hj hdN hdp hxd hb (c := @decide q i2) (fun h => (h1 (by simpa using h)).mono fun s' σ' ⟨e1, e2, e3⟩ => ⟨by rw [e1, e2], e3⟩) (andB rfl rfl) k
theorem ExOps.or5 {T : TT} (hT : TOk P T) {ops : Array Oper} {o1 o2 o3 o4 o5 : Oper} {rest : List Oper} {Q : (Nat → PV) → List Ent → Prop} {j d x dp : Nat} {ty : TypeId} {pos : String} {after : Array Edge} {b c : Bool} {p q : Prop} {i : Decidable p} {i2 : Decidable q}
    (hb : s d = .bool b) (h0 : o1.guard = some (j, false)) (hj : (ops[j]?).bind (·.dst) = some d) (hg : plainG [o1, o2, o3, o4, o5] N j d false = true) (hdN : Nat.blt d N = true) (hdp : Nat.blt dp N = true) (hxd : Nat.beq d x = false) (hp : b = @decide p i)
    (h1 : ¬ p → ExOps P N ops [o1, o2, o3, o4, o5] (upd s d (.bool false)) σ fun s' σ' => s' x = .bool c ∧ c = @decide q i2 ∧ WkS s' (junks (upd s d (.bool false)) [o1, o2, o3, o4, o5]) ∧ σ' = σ)
    (k : ExOps P N ops rest (upd (upd (junks s [o1, o2, o3, o4, o5]) x .junk) dp (.bool (@decide (p ∨ q) (@instDecidableOr _ _ i i2)))) σ Q) :
    ExOps P N ops (o1 :: o2 :: o3 :: o4 :: o5 :: ⟨some dp, .pick (.tmp d) (.const (.bool true)) (.tmp x), ty, pos, after, none⟩ :: rest) s σ Q := by
  subst hp
  exact ExOps.fork hT [o1, o2, o3, o4, o5] rfl hg hj hdN hdp hxd hb (c := @decide q i2) (fun h => (h1 (by simpa using h)).mono fun s' σ' ⟨e1, e2, e3⟩ => ⟨by rw [e1, e2], e3⟩) (orB rfl rfl) k
theorem ExOps.and6 {T : TT} (hT : TOk P T) {ops : Array Oper} {o1 o2 o3 o4 o5 o6 : Oper} {rest : List Oper} {Q : (Nat → PV) → List Ent → Prop} {j d x dp : Nat} {ty : TypeId} {pos : String} {after : Array Edge} {b c : Bool} {p q : Prop} {i : Decidable p} {i2 : Decidable q}
    (hb : s d = .bool b) (h0 : o1.guard = some (j, true)) (hj : (ops[j]?).bind (·.dst) = some d) (hg : plainG [o1, o2, o3, o4, o5, o6] N j d true = true) (hdN : Nat.blt d N = true) (hdp : Nat.blt dp N = true) (hxd : Nat.beq d x = false) (hp : b = @decide p i)
    (h1 : p → ExOps P N ops [o1, o2, o3, o4, o5, o6] (upd s d (.bool true)) σ fun s' σ' => s' x = .bool c ∧ c = @decide q i2 ∧ WkS s' (junks (upd s d (.bool true)) [o1, o2, o3, o4, o5, o6]) ∧ σ' = σ)
    (k : ExOps P N ops rest (upd (upd (junks s [o1, o2, o3, o4, o5, o6]) x .junk) dp (.bool (@decide (p ∧ q) (@instDecidableAnd _ _ i i2)))) σ Q) :
    ExOps P N ops (o1 :: o2 :: o3 :: o4 :: o5 :: o6 :: ⟨some dp, .pick (.tmp d) (.tmp x) (.const (.bool false)), ty, pos, after, none⟩ :: rest) s σ Q := by
  subst hp
  exact ExOps.fork hT [o1, o2, o3, o4, o5, o6] rfl hg hj hdN hdp hxd hb (c := @decide q i2) (fun h => (h1 (by simpa using h)).mono fun s' σ' ⟨e1, e2, e3⟩ => ⟨by rw [e1, e2], e3⟩) (andB rfl rfl) k
theorem ExOps.or6 {T : TT} (hT : TOk P T) {ops : Array Oper} {o1 o2 o3 o4 o5 o6 : Oper} {rest : List Oper} {Q : (Nat → PV) → List Ent → Prop} {j d x dp : Nat} {ty : TypeId} {pos : String} {after : Array Edge} {b c : Bool} {p q : Prop} {i : Decidable p} {i2 : Decidable q}
    (hb : s d = .bool b) (h0 : o1.guard = some (j, false)) (hj : (ops[j]?).bind (·.dst) = some d) (hg : plainG [o1, o2, o3, o4, o5, o6] N j d false = true) (hdN : Nat.blt d N = true) (hdp : Nat.blt dp N = true) (hxd : Nat.beq d x = false) (hp : b = @decide p i)
    (h1 : ¬ p → ExOps P N ops [o1, o2, o3, o4, o5, o6] (upd s d (.bool false)) σ fun s' σ' => s' x = .bool c ∧ c = @decide q i2 ∧ WkS s' (junks (upd s d (.bool false)) [o1, o2, o3, o4, o5, o6]) ∧ σ' = σ)
    (k : ExOps P N ops rest (upd (upd (junks s [o1, o2, o3, o4, o5, o6]) x .junk) dp (.bool (@decide (p ∨ q) (@instDecidableOr _ _ i i2)))) σ Q) :
    ExOps P N ops (o1 :: o2 :: o3 :: o4 :: o5 :: o6 :: ⟨some dp, .pick (.tmp d) (.const (.bool true)) (.tmp x), ty, pos, after, none⟩ :: rest) s σ Q := by
  subst hp
  exact ExOps.fork hT [o1, o2, o3, o4, o5, o6] rfl hg hj hdN hdp hxd hb (c := @decide q i2) (fun h => (h1 (by simpa using h)).mono fun s' σ' ⟨e1, e2, e3⟩ => ⟨by rw [e1, e2], e3⟩) (orB rfl rfl) k
theorem ExOps.and7 {T : TT} (hT : TOk P T) {ops : Array Oper} {o1 o2 o3 o4 o5 o6 o7 : Oper} {rest : List Oper} {Q : (Nat → PV) → List Ent → Prop} {j d x dp : Nat} {ty : TypeId} {pos : String} {after : Array Edge} {b c : Bool} {p q : Prop} {i : Decidable p} {i2 : Decidable q}
    (hb : s d = .bool b) (h0 : o1.guard = some (j, true)) (hj : (ops[j]?).bind (·.dst) = some d) (hg : plainG [o1, o2, o3, o4, o5, o6, o7] N j d true = true) (hdN : Nat.blt d N = true) (hdp : Nat.blt dp N = true) (hxd : Nat.beq d x = false) (hp : b = @decide p i)
    (h1 : p → ExOps P N ops [o1, o2, o3, o4, o5, o6, o7] (upd s d (.bool true)) σ fun s' σ' => s' x = .bool c ∧ c = @decide q i2 ∧ WkS s' (junks (upd s d (.bool true)) [o1, o2, o3, o4, o5, o6, o7]) ∧ σ' = σ)
    (k : ExOps P N ops rest (upd (upd (junks s [o1, o2, o3, o4, o5, o6, o7]) x .junk) dp (.bool (@decide (p ∧ q) (@instDecidableAnd _ _ i i2)))) σ Q) :
    ExOps P N ops (o1 :: o2 :: o3 :: o4 :: o5 :: o6 :: o7 :: ⟨some dp, .pick (.tmp d) (.tmp x) (.const (.bool false)), ty, pos, after, none⟩ :: rest) s σ Q := by
  subst hp
  exact ExOps.fork hT [o1, o2, o3, o4, o5, o6, o7] rfl hg hj hdN hdp hxd hb (c := @decide q i2) (fun h => (h1 (by simpa using h)).mono fun s' σ' ⟨e1, e2, e3⟩ => ⟨by rw [e1, e2], e3⟩) (andB rfl rfl) k
theorem ExOps.or7 {T : TT} (hT : TOk P T) {ops : Array Oper} {o1 o2 o3 o4 o5 o6 o7 : Oper} {rest : List Oper} {Q : (Nat → PV) → List Ent → Prop} {j d x dp : Nat} {ty : TypeId} {pos : String} {after : Array Edge} {b c : Bool} {p q : Prop} {i : Decidable p} {i2 : Decidable q}
    (hb : s d = .bool b) (h0 : o1.guard = some (j, false)) (hj : (ops[j]?).bind (·.dst) = some d) (hg : plainG [o1, o2, o3, o4, o5, o6, o7] N j d false = true) (hdN : Nat.blt d N = true) (hdp : Nat.blt dp N = true) (hxd : Nat.beq d x = false) (hp : b = @decide p i)
    (h1 : ¬ p → ExOps P N ops [o1, o2, o3, o4, o5, o6, o7] (upd s d (.bool false)) σ fun s' σ' => s' x = .bool c ∧ c = @decide q i2 ∧ WkS s' (junks (upd s d (.bool false)) [o1, o2, o3, o4, o5, o6, o7]) ∧ σ' = σ)
    (k : ExOps P N ops rest (upd (upd (junks s [o1, o2, o3, o4, o5, o6, o7]) x .junk) dp (.bool (@decide (p ∨ q) (@instDecidableOr _ _ i i2)))) σ Q) :
    ExOps P N ops (o1 :: o2 :: o3 :: o4 :: o5 :: o6 :: o7 :: ⟨some dp, .pick (.tmp d) (.const (.bool true)) (.tmp x), ty, pos, after, none⟩ :: rest) s σ Q := by
  subst hp
  exact ExOps.fork hT [o1, o2, o3, o4, o5, o6, o7] rfl hg hj hdN hdp hxd hb (c := @decide q i2) (fun h => (h1 (by simpa using h)).mono fun s' σ' ⟨e1, e2, e3⟩ => ⟨by rw [e1, e2], e3⟩) (orB rfl rfl) k
theorem ExOps.and8 {T : TT} (hT : TOk P T) {ops : Array Oper} {o1 o2 o3 o4 o5 o6 o7 o8 : Oper} {rest : List Oper} {Q : (Nat → PV) → List Ent → Prop} {j d x dp : Nat} {ty : TypeId} {pos : String} {after : Array Edge} {b c : Bool} {p q : Prop} {i : Decidable p} {i2 : Decidable q}
    (hb : s d = .bool b) (h0 : o1.guard = some (j, true)) (hj : (ops[j]?).bind (·.dst) = some d) (hg : plainG [o1, o2, o3, o4, o5, o6, o7, o8] N j d true = true) (hdN : Nat.blt d N = true) (hdp : Nat.blt dp N = true) (hxd : Nat.beq d x = false) (hp : b = @decide p i)
    (h1 : p → ExOps P N ops [o1, o2, o3, o4, o5, o6, o7, o8] (upd s d (.bool true)) σ fun s' σ' => s' x = .bool c ∧ c = @decide q i2 ∧ WkS s' (junks (upd s d (.bool true)) [o1, o2, o3, o4, o5, o6, o7, o8]) ∧ σ' = σ)
    (k : ExOps P N ops rest (upd (upd (junks s [o1, o2, o3, o4, o5, o6, o7, o8]) x .junk) dp (.bool (@decide (p ∧ q) (@instDecidableAnd _ _ i i2)))) σ Q) :
    ExOps P N ops (o1 :: o2 :: o3 :: o4 :: o5 :: o6 :: o7 :: o8 :: ⟨some dp, .pick (.tmp d) (.tmp x) (.const (.bool false)), ty, pos, after, none⟩ :: rest) s σ Q := by
  subst hp
  exact ExOps.fork hT [o1, o2, o3, o4, o5, o6, o7, o8] rfl hg hj hdN hdp hxd hb (c := @decide q i2) (fun h => (h1 (by simpa using h)).mono fun s' σ' ⟨e1, e2, e3⟩ => ⟨by rw [e1, e2], e3⟩) (andB rfl rfl) k
theorem ExOps.or8 {T : TT} (hT : TOk P T) {ops : Array Oper} {o1 o2 o3 o4 o5 o6 o7 o8 : Oper} {rest : List Oper} {Q : (Nat → PV) → List Ent → Prop} {j d x dp : Nat} {ty : TypeId} {pos : String} {after : Array Edge} {b c : Bool} {p q : Prop} {i : Decidable p} {i2 : Decidable q}
    (hb : s d = .bool b) (h0 : o1.guard = some (j, false)) (hj : (ops[j]?).bind (·.dst) = some d) (hg : plainG [o1, o2, o3, o4, o5, o6, o7, o8] N j d false = true) (hdN : Nat.blt d N = true) (hdp : Nat.blt dp N = true) (hxd : Nat.beq d x = false) (hp : b = @decide p i)
    (h1 : ¬ p → ExOps P N ops [o1, o2, o3, o4, o5, o6, o7, o8] (upd s d (.bool false)) σ fun s' σ' => s' x = .bool c ∧ c = @decide q i2 ∧ WkS s' (junks (upd s d (.bool false)) [o1, o2, o3, o4, o5, o6, o7, o8]) ∧ σ' = σ)
    (k : ExOps P N ops rest (upd (upd (junks s [o1, o2, o3, o4, o5, o6, o7, o8]) x .junk) dp (.bool (@decide (p ∨ q) (@instDecidableOr _ _ i i2)))) σ Q) :
    ExOps P N ops (o1 :: o2 :: o3 :: o4 :: o5 :: o6 :: o7 :: o8 :: ⟨some dp, .pick (.tmp d) (.const (.bool true)) (.tmp x), ty, pos, after, none⟩ :: rest) s σ Q := by
  subst hp
  exact ExOps.fork hT [o1, o2, o3, o4, o5, o6, o7, o8] rfl hg hj hdN hdp hxd hb (c := @decide q i2) (fun h => (h1 (by simpa using h)).mono fun s' σ' ⟨e1, e2, e3⟩ => ⟨by rw [e1, e2], e3⟩) (orB rfl rfl) k
theorem ExOps.and9 {T : TT} (hT : TOk P T) {ops : Array Oper} {o1 o2 o3 o4 o5 o6 o7 o8 o9 : Oper} {rest : List Oper} {Q : (Nat → PV) → List Ent → Prop} {j d x dp : Nat} {ty : TypeId} {pos : String} {after : Array Edge} {b c : Bool} {p q : Prop} {i : Decidable p} {i2 : Decidable q}
    (hb : s d = .bool b) (h0 : o1.guard = some (j, true)) (hj : (ops[j]?).bind (·.dst) = some d) (hg : plainG [o1, o2, o3, o4, o5, o6, o7, o8, o9] N j d true = true) (hdN : Nat.blt d N = true) (hdp : Nat.blt dp N = true) (hxd : Nat.beq d x = false) (hp : b = @decide p i)
    (h1 : p → ExOps P N ops [o1, o2, o3, o4, o5, o6, o7, o8, o9] (upd s d (.bool true)) σ fun s' σ' => s' x = .bool c ∧ c = @decide q i2 ∧ WkS s' (junks (upd s d (.bool true)) [o1, o2, o3, o4, o5, o6, o7, o8, o9]) ∧ σ' = σ)
    (k : ExOps P N ops rest (upd (upd (junks s [o1, o2, o3, o4, o5, o6, o7, o8, o9]) x .junk) dp (.bool (@decide (p ∧ q) (@instDecidableAnd _ _ i i2)))) σ Q) :
    ExOps P N ops (o1 :: o2 :: o3 :: o4 :: o5 :: o6 :: o7 :: o8 :: o9 :: ⟨some dp, .pick (.tmp d) (.tmp x) (.const (.bool false)), ty, pos, after, none⟩ :: rest) s σ Q := by
  subst hp
  exact ExOps.fork hT [o1, o2, o3, o4, o5, o6, o7, o8, o9] rfl hg hj hdN hdp hxd hb (c := @decide q i2) (fun h => (h1 (by simpa using h)).mono fun s' σ' ⟨e1, e2, e3⟩ => ⟨by rw [e1, e2], e3⟩) (andB rfl rfl) k
theorem ExOps.or9 {T : TT} (hT : TOk P T) {ops : Array Oper} {o1 o2 o3 o4 o5 o6 o7 o8 o9 : Oper} {rest : List Oper} {Q : (Nat → PV) → List Ent → Prop} {j d x dp : Nat} {ty : TypeId} {pos : String} {after : Array Edge} {b c : Bool} {p q : Prop} {i : Decidable p} {i2 : Decidable q}
    (hb : s d = .bool b) (h0 : o1.guard = some (j, false)) (hj : (ops[j]?).bind (·.dst) = some d) (hg : plainG [o1, o2, o3, o4, o5, o6, o7, o8, o9] N j d false = true) (hdN : Nat.blt d N = true) (hdp : Nat.blt dp N = true) (hxd : Nat.beq d x = false) (hp : b = @decide p i)
    (h1 : ¬ p → ExOps P N ops [o1, o2, o3, o4, o5, o6, o7, o8, o9] (upd s d (.bool false)) σ fun s' σ' => s' x = .bool c ∧ c = @decide q i2 ∧ WkS s' (junks (upd s d (.bool false)) [o1, o2, o3, o4, o5, o6, o7, o8, o9]) ∧ σ' = σ)
    (k : ExOps P N ops rest (upd (upd (junks s [o1, o2, o3, o4, o5, o6, o7, o8, o9]) x .junk) dp (.bool (@decide (p ∨ q) (@instDecidableOr _ _ i i2)))) σ Q) :
    ExOps P N ops (o1 :: o2 :: o3 :: o4 :: o5 :: o6 :: o7 :: o8 :: o9 :: ⟨some dp, .pick (.tmp d) (.const (.bool true)) (.tmp x), ty, pos, after, none⟩ :: rest) s σ Q := by
  subst hp
  exact ExOps.fork hT [o1, o2, o3, o4, o5, o6, o7, o8, o9] rfl hg hj hdN hdp hxd hb (c := @decide q i2) (fun h => (h1 (by simpa using h)).mono fun s' σ' ⟨e1, e2, e3⟩ => ⟨by rw [e1, e2], e3⟩) (orB rfl rfl) k
theorem ExOps.and10 {T : TT} (hT : TOk P T) {ops : Array Oper} {o1 o2 o3 o4 o5 o6 o7 o8 o9 o10 : Oper} {rest : List Oper} {Q : (Nat → PV) → List Ent → Prop} {j d x dp : Nat} {ty : TypeId} {pos : String} {after : Array Edge} {b c : Bool} {p q : Prop} {i : Decidable p} {i2 : Decidable q}
    (hb : s d = .bool b) (h0 : o1.guard = some (j, true)) (hj : (ops[j]?).bind (·.dst) = some d) (hg : plainG [o1, o2, o3, o4, o5, o6, o7, o8, o9, o10] N j d true = true) (hdN : Nat.blt d N = true) (hdp : Nat.blt dp N = true) (hxd : Nat.beq d x = false) (hp : b = @decide p i)
    (h1 : p → ExOps P N ops [o1, o2, o3, o4, o5, o6, o7, o8, o9, o10] (upd s d (.bool true)) σ fun s' σ' => s' x = .bool c ∧ c = @decide q i2 ∧ WkS s' (junks (upd s d (.bool true)) [o1, o2, o3, o4, o5, o6, o7, o8, o9, o10]) ∧ σ' = σ)
    (k : ExOps P N ops rest (upd (upd (junks s [o1, o2, o3, o4, o5, o6, o7, o8, o9, o10]) x .junk) dp (.bool (@decide (p ∧ q) (@instDecidableAnd _ _ i i2)))) σ Q) :
    ExOps P N ops (o1 :: o2 :: o3 :: o4 :: o5 :: o6 :: o7 :: o8 :: o9 :: o10 :: ⟨some dp, .pick (.tmp d) (.tmp x) (.const (.bool false)), ty, pos, after, none⟩ :: rest) s σ Q := by
  subst hp
  exact ExOps.fork hT [o1, o2, o3, o4, o5, o6, o7, o8, o9, o10] rfl hg hj hdN hdp hxd hb (c := @decide q i2) (fun h => (h1 (by simpa using h)).mono fun s' σ' ⟨e1, e2, e3⟩ => ⟨by rw [e1, e2], e3⟩) (andB rfl rfl) k
theorem ExOps.or10 {T : TT} (hT : TOk P T) {ops : Array Oper} {o1 o2 o3 o4 o5 o6 o7 o8 o9 o10 : Oper} {rest : List Oper} {Q : (Nat → PV) → List Ent → Prop} {j d x dp : Nat} {ty : TypeId} {pos : String} {after : Array Edge} {b c : Bool} {p q : Prop} {i : Decidable p} {i2 : Decidable q}
    (hb : s d = .bool b) (h0 : o1.guard = some (j, false)) (hj : (ops[j]?).bind (·.dst) = some d) (hg : plainG [o1, o2, o3, o4, o5, o6, o7, o8, o9, o10] N j d false = true) (hdN : Nat.blt d N = true) (hdp : Nat.blt dp N = true) (hxd : Nat.beq d x = false) (hp : b = @decide p i)
    (h1 : ¬ p → ExOps P N ops [o1, o2, o3, o4, o5, o6, o7, o8, o9, o10] (upd s d (.bool false)) σ fun s' σ' => s' x = .bool c ∧ c = @decide q i2 ∧ WkS s' (junks (upd s d (.bool false)) [o1, o2, o3, o4, o5, o6, o7, o8, o9, o10]) ∧ σ' = σ)
    (k : ExOps P N ops rest (upd (upd (junks s [o1, o2, o3, o4, o5, o6, o7, o8, o9, o10]) x .junk) dp (.bool (@decide (p ∨ q) (@instDecidableOr _ _ i i2)))) σ Q) :
    ExOps P N ops (o1 :: o2 :: o3 :: o4 :: o5 :: o6 :: o7 :: o8 :: o9 :: o10 :: ⟨some dp, .pick (.tmp d) (.const (.bool true)) (.tmp x), ty, pos, after, none⟩ :: rest) s σ Q := by
  subst hp
  exact ExOps.fork hT [o1, o2, o3, o4, o5, o6, o7, o8, o9, o10] rfl hg hj hdN hdp hxd hb (c := @decide q i2) (fun h => (h1 (by simpa using h)).mono fun s' σ' ⟨e1, e2, e3⟩ => ⟨by rw [e1, e2], e3⟩) (orB rfl rfl) k
theorem ExOps.and11 {T : TT} (hT : TOk P T) {ops : Array Oper} {o1 o2 o3 o4 o5 o6 o7 o8 o9 o10 o11 : Oper} {rest : List Oper} {Q : (Nat → PV) → List Ent → Prop} {j d x dp : Nat} {ty : TypeId} {pos : String} {after : Array Edge} {b c : Bool} {p q : Prop} {i : Decidable p} {i2 : Decidable q}
    (hb : s d = .bool b) (h0 : o1.guard = some (j, true)) (hj : (ops[j]?).bind (·.dst) = some d) (hg : plainG [o1, o2, o3, o4, o5, o6, o7, o8, o9, o10, o11] N j d true = true) (hdN : Nat.blt d N = true) (hdp : Nat.blt dp N = true) (hxd : Nat.beq d x = false) (hp : b = @decide p i)
    (h1 : p → ExOps P N ops [o1, o2, o3, o4, o5, o6, o7, o8, o9, o10, o11] (upd s d (.bool true)) σ fun s' σ' => s' x = .bool c ∧ c = @decide q i2 ∧ WkS s' (junks (upd s d (.bool true)) [o1, o2, o3, o4, o5, o6, o7, o8, o9, o10, o11]) ∧ σ' = σ)
    (k : ExOps P N ops rest (upd (upd (junks s [o1, o2, o3, o4, o5, o6, o7, o8, o9, o10, o11]) x .junk) dp (.bool (@decide (p ∧ q) (@instDecidableAnd _ _ i i2)))) σ Q) :
    ExOps P N ops (o1 :: o2 :: o3 :: o4 :: o5 :: o6 :: o7 :: o8 :: o9 :: o10 :: o11 :: ⟨some dp, .pick (.tmp d) (.tmp x) (.const (.bool false)), ty, pos, after, none⟩ :: rest) s σ Q := by
  subst hp
  exact ExOps.fork hT [o1, o2, o3, o4, o5, o6, o7, o8, o9, o10, o11] rfl hg hj hdN hdp hxd hb (c := @decide q i2) (fun h => (h1 (by simpa using h)).mono fun s' σ' ⟨e1, e2, e3⟩ => ⟨by rw [e1, e2], e3⟩) (andB rfl rfl) k
theorem ExOps.or11 {T : TT} (hT : TOk P T) {ops : Array Oper} {o1 o2 o3 o4 o5 o6 o7 o8 o9 o10 o11 : Oper} {rest : List Oper} {Q : (Nat → PV) → List Ent → Prop} {j d x dp : Nat} {ty : TypeId} {pos : String} {after : Array Edge} {b c : Bool} {p q : Prop} {i : Decidable p} {i2 : Decidable q}
    (hb : s d = .bool b) (h0 : o1.guard = some (j, false)) (hj : (ops[j]?).bind (·.dst) = some d) (hg : plainG [o1, o2, o3, o4, o5, o6, o7, o8, o9, o10, o11] N j d false = true) (hdN : Nat.blt d N = true) (hdp : Nat.blt dp N = true) (hxd : Nat.beq d x = false) (hp : b = @decide p i)
    (h1 : ¬ p → ExOps P N ops [o1, o2, o3, o4, o5, o6, o7, o8, o9, o10, o11] (upd s d (.bool false)) σ fun s' σ' => s' x = .bool c ∧ c = @decide q i2 ∧ WkS s' (junks (upd s d (.bool false)) [o1, o2, o3, o4, o5, o6, o7, o8, o9, o10, o11]) ∧ σ' = σ)
    (k : ExOps P N ops rest (upd (upd (junks s [o1, o2, o3, o4, o5, o6, o7, o8, o9, o10, o11]) x .junk) dp (.bool (@decide (p ∨ q) (@instDecidableOr _ _ i i2)))) σ Q) :
    ExOps P N ops (o1 :: o2 :: o3 :: o4 :: o5 :: o6 :: o7 :: o8 :: o9 :: o10 :: o11 :: ⟨some dp, .pick (.tmp d) (.const (.bool true)) (.tmp x), ty, pos, after, none⟩ :: rest) s σ Q := by
  subst hp
  exact ExOps.fork hT [o1, o2, o3, o4, o5, o6, o7, o8, o9, o10, o11] rfl hg hj hdN hdp hxd hb (c := @decide q i2) (fun h => (h1 (by simpa using h)).mono fun s' σ' ⟨e1, e2, e3⟩ => ⟨by rw [e1, e2], e3⟩) (orB rfl rfl) k
theorem ExOps.and12 {T : TT} (hT : TOk P T) {ops : Array Oper} {o1 o2 o3 o4 o5 o6 o7 o8 o9 o10 o11 o12 : Oper} {rest : List Oper} {Q : (Nat → PV) → List Ent → Prop} {j d x dp : Nat} {ty : TypeId} {pos : String} {after : Array Edge} {b c : Bool} {p q : Prop} {i : Decidable p} {i2 : Decidable q}
    (hb : s d = .bool b) (h0 : o1.guard = some (j, true)) (hj : (ops[j]?).bind (·.dst) = some d) (hg : plainG [o1, o2, o3, o4, o5, o6, o7, o8, o9, o10, o11, o12] N j d true = true) (hdN : Nat.blt d N = true) (hdp : Nat.blt dp N = true) (hxd : Nat.beq d x = false) (hp : b = @decide p i)
    (h1 : p → ExOps P N ops [o1, o2, o3, o4, o5, o6, o7, o8, o9, o10, o11, o12] (upd s d (.bool true)) σ fun s' σ' => s' x = .bool c ∧ c = @decide q i2 ∧ WkS s' (junks (upd s d (.bool true)) [o1, o2, o3, o4, o5, o6, o7, o8, o9, o10, o11, o12]) ∧ σ' = σ)
    (k : ExOps P N ops rest (upd (upd (junks s [o1, o2, o3, o4, o5, o6, o7, o8, o9, o10, o11, o12]) x .junk) dp (.bool (@decide (p ∧ q) (@instDecidableAnd _ _ i i2)))) σ Q) :
    ExOps P N ops (o1 :: o2 :: o3 :: o4 :: o5 :: o6 :: o7 :: o8 :: o9 :: o10 :: o11 :: o12 :: ⟨some dp, .pick (.tmp d) (.tmp x) (.const (.bool false)), ty, pos, after, none⟩ :: rest) s σ Q := by
  subst hp
  exact ExOps.fork hT [o1, o2, o3, o4, o5, o6, o7, o8, o9, o10, o11, o12] rfl hg hj hdN hdp hxd hb (c := @decide q i2) (fun h => (h1 (by simpa using h)).mono fun s' σ' ⟨e1, e2, e3⟩ => ⟨by rw [e1, e2], e3⟩) (andB rfl rfl) k
theorem ExOps.or12 {T : TT} (hT : TOk P T) {ops : Array Oper} {o1 o2 o3 o4 o5 o6 o7 o8 o9 o10 o11 o12 : Oper} {rest : List Oper} {Q : (Nat → PV) → List Ent → Prop} {j d x dp : Nat} {ty : TypeId} {pos : String} {after : Array Edge} {b c : Bool} {p q : Prop} {i : Decidable p} {i2 : Decidable q}
    (hb : s d = .bool b) (h0 : o1.guard = some (j, false)) (hj : (ops[j]?).bind (·.dst) = some d) (hg : plainG [o1, o2, o3, o4, o5, o6, o7, o8, o9, o10, o11, o12] N j d false = true) (hdN : Nat.blt d N = true) (hdp : Nat.blt dp N = true) (hxd : Nat.beq d x = false) (hp : b = @decide p i)
    (h1 : ¬ p → ExOps P N ops [o1, o2, o3, o4, o5, o6, o7, o8, o9, o10, o11, o12] (upd s d (.bool false)) σ fun s' σ' => s' x = .bool c ∧ c = @decide q i2 ∧ WkS s' (junks (upd s d (.bool false)) [o1, o2, o3, o4, o5, o6, o7, o8, o9, o10, o11, o12]) ∧ σ' = σ)
    (k : ExOps P N ops rest (upd (upd (junks s [o1, o2, o3, o4, o5, o6, o7, o8, o9, o10, o11, o12]) x .junk) dp (.bool (@decide (p ∨ q) (@instDecidableOr _ _ i i2)))) σ Q) :
    ExOps P N ops (o1 :: o2 :: o3 :: o4 :: o5 :: o6 :: o7 :: o8 :: o9 :: o10 :: o11 :: o12 :: ⟨some dp, .pick (.tmp d) (.const (.bool true)) (.tmp x), ty, pos, after, none⟩ :: rest) s σ Q := by
  subst hp
  exact ExOps.fork hT [o1, o2, o3, o4, o5, o6, o7, o8, o9, o10, o11, o12] rfl hg hj hdN hdp hxd hb (c := @decide q i2) (fun h => (h1 (by simpa using h)).mono fun s' σ' ⟨e1, e2, e3⟩ => ⟨by rw [e1, e2], e3⟩) (orB rfl rfl) k
/-- Gates: the goal is of a form. -/
theorem Ex.g {c : Code} {Q : Exit → (Nat → PV) → List Ent → Prop} (h : Ex P N c s σ Q) : Ex P N c s σ Q := h
theorem Ex.gCond {c : Operand} {x y : Code} {Q : Exit → (Nat → PV) → List Ent → Prop} (h : Ex P N (.cond c x y) s σ Q) : Ex P N (.cond c x y) s σ Q := h
theorem ExOps.gP {ops : Array Oper} {d : Option Nat} {op : Op} {ty : TypeId} {pos : String} {after : Array Edge} {rest : List Oper} {Q : (Nat → PV) → List Ent → Prop} (h : ExOps P N ops (⟨d, op, ty, pos, after, none⟩ :: rest) s σ Q) : ExOps P N ops (⟨d, op, ty, pos, after, none⟩ :: rest) s σ Q := h
theorem ExOps.gPC {ops : Array Oper} {d : Option Nat} {c : Call} {ty : TypeId} {pos : String} {after : Array Edge} {rest : List Oper} {Q : (Nat → PV) → List Ent → Prop} (h : ExOps P N ops (⟨d, .call c, ty, pos, after, none⟩ :: rest) s σ Q) : ExOps P N ops (⟨d, .call c, ty, pos, after, none⟩ :: rest) s σ Q := h
theorem ExOps.gG {ops : Array Oper} {d : Option Nat} {op : Op} {ty : TypeId} {pos : String} {after : Array Edge} {gd : Nat × Bool} {rest : List Oper} {Q : (Nat → PV) → List Ent → Prop} (h : ExOps P N ops (⟨d, op, ty, pos, after, some gd⟩ :: rest) s σ Q) : ExOps P N ops (⟨d, op, ty, pos, after, some gd⟩ :: rest) s σ Q := h
theorem ExOps.gGC {ops : Array Oper} {d : Option Nat} {c : Call} {ty : TypeId} {pos : String} {after : Array Edge} {gd : Nat × Bool} {rest : List Oper} {Q : (Nat → PV) → List Ent → Prop} (h : ExOps P N ops (⟨d, .call c, ty, pos, after, some gd⟩ :: rest) s σ Q) : ExOps P N ops (⟨d, .call c, ty, pos, after, some gd⟩ :: rest) s σ Q := h
/-- The guard holds, does not hold. -/
theorem ExOps.gIn {ops : Array Oper} {j d' : Nat} {want : Bool} {d : Option Nat} {op : Op} {ty : TypeId} {pos : String} {after : Array Edge} {rest : List Oper} {Q : (Nat → PV) → List Ent → Prop} (hj : (ops[j]?).bind (·.dst) = some d') (hb : s d' = .bool want) (h : ExOps P N ops (⟨d, op, ty, pos, after, some (j, want)⟩ :: rest) s σ Q) : ExOps P N ops (⟨d, op, ty, pos, after, some (j, want)⟩ :: rest) s σ Q := h
theorem QSeq.g {c : Code} {Q : Exit → (Nat → PV) → List Ent → Prop} {e : Exit} (h : QSeq P N c Q e s σ) : QSeq P N c Q e s σ := h
theorem QBlock.g {id : Nat} {Q : Exit → (Nat → PV) → List Ent → Prop} {e : Exit} (h : QBlock id Q e s σ) : QBlock id Q e s σ := h
theorem QLoop.g {I : Nat → (Nat → PV) → List Ent → Prop} {n : Nat} {Q : Exit → (Nat → PV) → List Ent → Prop} {e : Exit} (h : QLoop I n Q e s σ) : QLoop I n Q e s σ := h
theorem QRet.g {T : TT} {rs : List ResultVar} {Q : PV → List Ent → Prop} {e : Exit} (h : QRet T rs Q e s σ) : QRet T rs Q e s σ := h
theorem ExOps.gAnd1 {ops : Array Oper} {o1 : Oper} {rest : List Oper} {Q : (Nat → PV) → List Ent → Prop} {d x dp : Nat} {ty : TypeId} {pos : String} {after : Array Edge} (h : ExOps P N ops (o1 :: ⟨some dp, .pick (.tmp d) (.tmp x) (.const (.bool false)), ty, pos, after, none⟩ :: rest) s σ Q) : ExOps P N ops (o1 :: ⟨some dp, .pick (.tmp d) (.tmp x) (.const (.bool false)), ty, pos, after, none⟩ :: rest) s σ Q := h
theorem ExOps.gOr1 {ops : Array Oper} {o1 : Oper} {rest : List Oper} {Q : (Nat → PV) → List Ent → Prop} {d x dp : Nat} {ty : TypeId} {pos : String} {after : Array Edge} (h : ExOps P N ops (o1 :: ⟨some dp, .pick (.tmp d) (.const (.bool true)) (.tmp x), ty, pos, after, none⟩ :: rest) s σ Q) : ExOps P N ops (o1 :: ⟨some dp, .pick (.tmp d) (.const (.bool true)) (.tmp x), ty, pos, after, none⟩ :: rest) s σ Q := h
theorem ExOps.gAnd2 {ops : Array Oper} {o1 o2 : Oper} {rest : List Oper} {Q : (Nat → PV) → List Ent → Prop} {d x dp : Nat} {ty : TypeId} {pos : String} {after : Array Edge} (h : ExOps P N ops (o1 :: o2 :: ⟨some dp, .pick (.tmp d) (.tmp x) (.const (.bool false)), ty, pos, after, none⟩ :: rest) s σ Q) : ExOps P N ops (o1 :: o2 :: ⟨some dp, .pick (.tmp d) (.tmp x) (.const (.bool false)), ty, pos, after, none⟩ :: rest) s σ Q := h
theorem ExOps.gOr2 {ops : Array Oper} {o1 o2 : Oper} {rest : List Oper} {Q : (Nat → PV) → List Ent → Prop} {d x dp : Nat} {ty : TypeId} {pos : String} {after : Array Edge} (h : ExOps P N ops (o1 :: o2 :: ⟨some dp, .pick (.tmp d) (.const (.bool true)) (.tmp x), ty, pos, after, none⟩ :: rest) s σ Q) : ExOps P N ops (o1 :: o2 :: ⟨some dp, .pick (.tmp d) (.const (.bool true)) (.tmp x), ty, pos, after, none⟩ :: rest) s σ Q := h
theorem ExOps.gAnd3 {ops : Array Oper} {o1 o2 o3 : Oper} {rest : List Oper} {Q : (Nat → PV) → List Ent → Prop} {d x dp : Nat} {ty : TypeId} {pos : String} {after : Array Edge} (h : ExOps P N ops (o1 :: o2 :: o3 :: ⟨some dp, .pick (.tmp d) (.tmp x) (.const (.bool false)), ty, pos, after, none⟩ :: rest) s σ Q) : ExOps P N ops (o1 :: o2 :: o3 :: ⟨some dp, .pick (.tmp d) (.tmp x) (.const (.bool false)), ty, pos, after, none⟩ :: rest) s σ Q := h
theorem ExOps.gOr3 {ops : Array Oper} {o1 o2 o3 : Oper} {rest : List Oper} {Q : (Nat → PV) → List Ent → Prop} {d x dp : Nat} {ty : TypeId} {pos : String} {after : Array Edge} (h : ExOps P N ops (o1 :: o2 :: o3 :: ⟨some dp, .pick (.tmp d) (.const (.bool true)) (.tmp x), ty, pos, after, none⟩ :: rest) s σ Q) : ExOps P N ops (o1 :: o2 :: o3 :: ⟨some dp, .pick (.tmp d) (.const (.bool true)) (.tmp x), ty, pos, after, none⟩ :: rest) s σ Q := h
theorem ExOps.gAnd4 {ops : Array Oper} {o1 o2 o3 o4 : Oper} {rest : List Oper} {Q : (Nat → PV) → List Ent → Prop} {d x dp : Nat} {ty : TypeId} {pos : String} {after : Array Edge} (h : ExOps P N ops (o1 :: o2 :: o3 :: o4 :: ⟨some dp, .pick (.tmp d) (.tmp x) (.const (.bool false)), ty, pos, after, none⟩ :: rest) s σ Q) : ExOps P N ops (o1 :: o2 :: o3 :: o4 :: ⟨some dp, .pick (.tmp d) (.tmp x) (.const (.bool false)), ty, pos, after, none⟩ :: rest) s σ Q := h
theorem ExOps.gOr4 {ops : Array Oper} {o1 o2 o3 o4 : Oper} {rest : List Oper} {Q : (Nat → PV) → List Ent → Prop} {d x dp : Nat} {ty : TypeId} {pos : String} {after : Array Edge} (h : ExOps P N ops (o1 :: o2 :: o3 :: o4 :: ⟨some dp, .pick (.tmp d) (.const (.bool true)) (.tmp x), ty, pos, after, none⟩ :: rest) s σ Q) : ExOps P N ops (o1 :: o2 :: o3 :: o4 :: ⟨some dp, .pick (.tmp d) (.const (.bool true)) (.tmp x), ty, pos, after, none⟩ :: rest) s σ Q := h
theorem ExOps.gAnd5 {ops : Array Oper} {o1 o2 o3 o4 o5 : Oper} {rest : List Oper} {Q : (Nat → PV) → List Ent → Prop} {d x dp : Nat} {ty : TypeId} {pos : String} {after : Array Edge} (h : ExOps P N ops (o1 :: o2 :: o3 :: o4 :: o5 :: ⟨some dp, .pick (.tmp d) (.tmp x) (.const (.bool false)), ty, pos, after, none⟩ :: rest) s σ Q) : ExOps P N ops (o1 :: o2 :: o3 :: o4 :: o5 :: ⟨some dp, .pick (.tmp d) (.tmp x) (.const (.bool false)), ty, pos, after, none⟩ :: rest) s σ Q := h
theorem ExOps.gOr5 {ops : Array Oper} {o1 o2 o3 o4 o5 : Oper} {rest : List Oper} {Q : (Nat → PV) → List Ent → Prop} {d x dp : Nat} {ty : TypeId} {pos : String} {after : Array Edge} (h : ExOps P N ops (o1 :: o2 :: o3 :: o4 :: o5 :: ⟨some dp, .pick (.tmp d) (.const (.bool true)) (.tmp x), ty, pos, after, none⟩ :: rest) s σ Q) : ExOps P N ops (o1 :: o2 :: o3 :: o4 :: o5 :: ⟨some dp, .pick (.tmp d) (.const (.bool true)) (.tmp x), ty, pos, after, none⟩ :: rest) s σ Q := h
theorem ExOps.gAnd6 {ops : Array Oper} {o1 o2 o3 o4 o5 o6 : Oper} {rest : List Oper} {Q : (Nat → PV) → List Ent → Prop} {d x dp : Nat} {ty : TypeId} {pos : String} {after : Array Edge} (h : ExOps P N ops (o1 :: o2 :: o3 :: o4 :: o5 :: o6 :: ⟨some dp, .pick (.tmp d) (.tmp x) (.const (.bool false)), ty, pos, after, none⟩ :: rest) s σ Q) : ExOps P N ops (o1 :: o2 :: o3 :: o4 :: o5 :: o6 :: ⟨some dp, .pick (.tmp d) (.tmp x) (.const (.bool false)), ty, pos, after, none⟩ :: rest) s σ Q := h
theorem ExOps.gOr6 {ops : Array Oper} {o1 o2 o3 o4 o5 o6 : Oper} {rest : List Oper} {Q : (Nat → PV) → List Ent → Prop} {d x dp : Nat} {ty : TypeId} {pos : String} {after : Array Edge} (h : ExOps P N ops (o1 :: o2 :: o3 :: o4 :: o5 :: o6 :: ⟨some dp, .pick (.tmp d) (.const (.bool true)) (.tmp x), ty, pos, after, none⟩ :: rest) s σ Q) : ExOps P N ops (o1 :: o2 :: o3 :: o4 :: o5 :: o6 :: ⟨some dp, .pick (.tmp d) (.const (.bool true)) (.tmp x), ty, pos, after, none⟩ :: rest) s σ Q := h
theorem ExOps.gAnd7 {ops : Array Oper} {o1 o2 o3 o4 o5 o6 o7 : Oper} {rest : List Oper} {Q : (Nat → PV) → List Ent → Prop} {d x dp : Nat} {ty : TypeId} {pos : String} {after : Array Edge} (h : ExOps P N ops (o1 :: o2 :: o3 :: o4 :: o5 :: o6 :: o7 :: ⟨some dp, .pick (.tmp d) (.tmp x) (.const (.bool false)), ty, pos, after, none⟩ :: rest) s σ Q) : ExOps P N ops (o1 :: o2 :: o3 :: o4 :: o5 :: o6 :: o7 :: ⟨some dp, .pick (.tmp d) (.tmp x) (.const (.bool false)), ty, pos, after, none⟩ :: rest) s σ Q := h
theorem ExOps.gOr7 {ops : Array Oper} {o1 o2 o3 o4 o5 o6 o7 : Oper} {rest : List Oper} {Q : (Nat → PV) → List Ent → Prop} {d x dp : Nat} {ty : TypeId} {pos : String} {after : Array Edge} (h : ExOps P N ops (o1 :: o2 :: o3 :: o4 :: o5 :: o6 :: o7 :: ⟨some dp, .pick (.tmp d) (.const (.bool true)) (.tmp x), ty, pos, after, none⟩ :: rest) s σ Q) : ExOps P N ops (o1 :: o2 :: o3 :: o4 :: o5 :: o6 :: o7 :: ⟨some dp, .pick (.tmp d) (.const (.bool true)) (.tmp x), ty, pos, after, none⟩ :: rest) s σ Q := h
theorem ExOps.gAnd8 {ops : Array Oper} {o1 o2 o3 o4 o5 o6 o7 o8 : Oper} {rest : List Oper} {Q : (Nat → PV) → List Ent → Prop} {d x dp : Nat} {ty : TypeId} {pos : String} {after : Array Edge} (h : ExOps P N ops (o1 :: o2 :: o3 :: o4 :: o5 :: o6 :: o7 :: o8 :: ⟨some dp, .pick (.tmp d) (.tmp x) (.const (.bool false)), ty, pos, after, none⟩ :: rest) s σ Q) : ExOps P N ops (o1 :: o2 :: o3 :: o4 :: o5 :: o6 :: o7 :: o8 :: ⟨some dp, .pick (.tmp d) (.tmp x) (.const (.bool false)), ty, pos, after, none⟩ :: rest) s σ Q := h
theorem ExOps.gOr8 {ops : Array Oper} {o1 o2 o3 o4 o5 o6 o7 o8 : Oper} {rest : List Oper} {Q : (Nat → PV) → List Ent → Prop} {d x dp : Nat} {ty : TypeId} {pos : String} {after : Array Edge} (h : ExOps P N ops (o1 :: o2 :: o3 :: o4 :: o5 :: o6 :: o7 :: o8 :: ⟨some dp, .pick (.tmp d) (.const (.bool true)) (.tmp x), ty, pos, after, none⟩ :: rest) s σ Q) : ExOps P N ops (o1 :: o2 :: o3 :: o4 :: o5 :: o6 :: o7 :: o8 :: ⟨some dp, .pick (.tmp d) (.const (.bool true)) (.tmp x), ty, pos, after, none⟩ :: rest) s σ Q := h
theorem ExOps.gAnd9 {ops : Array Oper} {o1 o2 o3 o4 o5 o6 o7 o8 o9 : Oper} {rest : List Oper} {Q : (Nat → PV) → List Ent → Prop} {d x dp : Nat} {ty : TypeId} {pos : String} {after : Array Edge} (h : ExOps P N ops (o1 :: o2 :: o3 :: o4 :: o5 :: o6 :: o7 :: o8 :: o9 :: ⟨some dp, .pick (.tmp d) (.tmp x) (.const (.bool false)), ty, pos, after, none⟩ :: rest) s σ Q) : ExOps P N ops (o1 :: o2 :: o3 :: o4 :: o5 :: o6 :: o7 :: o8 :: o9 :: ⟨some dp, .pick (.tmp d) (.tmp x) (.const (.bool false)), ty, pos, after, none⟩ :: rest) s σ Q := h
theorem ExOps.gOr9 {ops : Array Oper} {o1 o2 o3 o4 o5 o6 o7 o8 o9 : Oper} {rest : List Oper} {Q : (Nat → PV) → List Ent → Prop} {d x dp : Nat} {ty : TypeId} {pos : String} {after : Array Edge} (h : ExOps P N ops (o1 :: o2 :: o3 :: o4 :: o5 :: o6 :: o7 :: o8 :: o9 :: ⟨some dp, .pick (.tmp d) (.const (.bool true)) (.tmp x), ty, pos, after, none⟩ :: rest) s σ Q) : ExOps P N ops (o1 :: o2 :: o3 :: o4 :: o5 :: o6 :: o7 :: o8 :: o9 :: ⟨some dp, .pick (.tmp d) (.const (.bool true)) (.tmp x), ty, pos, after, none⟩ :: rest) s σ Q := h
theorem ExOps.gAnd10 {ops : Array Oper} {o1 o2 o3 o4 o5 o6 o7 o8 o9 o10 : Oper} {rest : List Oper} {Q : (Nat → PV) → List Ent → Prop} {d x dp : Nat} {ty : TypeId} {pos : String} {after : Array Edge} (h : ExOps P N ops (o1 :: o2 :: o3 :: o4 :: o5 :: o6 :: o7 :: o8 :: o9 :: o10 :: ⟨some dp, .pick (.tmp d) (.tmp x) (.const (.bool false)), ty, pos, after, none⟩ :: rest) s σ Q) : ExOps P N ops (o1 :: o2 :: o3 :: o4 :: o5 :: o6 :: o7 :: o8 :: o9 :: o10 :: ⟨some dp, .pick (.tmp d) (.tmp x) (.const (.bool false)), ty, pos, after, none⟩ :: rest) s σ Q := h
theorem ExOps.gOr10 {ops : Array Oper} {o1 o2 o3 o4 o5 o6 o7 o8 o9 o10 : Oper} {rest : List Oper} {Q : (Nat → PV) → List Ent → Prop} {d x dp : Nat} {ty : TypeId} {pos : String} {after : Array Edge} (h : ExOps P N ops (o1 :: o2 :: o3 :: o4 :: o5 :: o6 :: o7 :: o8 :: o9 :: o10 :: ⟨some dp, .pick (.tmp d) (.const (.bool true)) (.tmp x), ty, pos, after, none⟩ :: rest) s σ Q) : ExOps P N ops (o1 :: o2 :: o3 :: o4 :: o5 :: o6 :: o7 :: o8 :: o9 :: o10 :: ⟨some dp, .pick (.tmp d) (.const (.bool true)) (.tmp x), ty, pos, after, none⟩ :: rest) s σ Q := h
theorem ExOps.gAnd11 {ops : Array Oper} {o1 o2 o3 o4 o5 o6 o7 o8 o9 o10 o11 : Oper} {rest : List Oper} {Q : (Nat → PV) → List Ent → Prop} {d x dp : Nat} {ty : TypeId} {pos : String} {after : Array Edge} (h : ExOps P N ops (o1 :: o2 :: o3 :: o4 :: o5 :: o6 :: o7 :: o8 :: o9 :: o10 :: o11 :: ⟨some dp, .pick (.tmp d) (.tmp x) (.const (.bool false)), ty, pos, after, none⟩ :: rest) s σ Q) : ExOps P N ops (o1 :: o2 :: o3 :: o4 :: o5 :: o6 :: o7 :: o8 :: o9 :: o10 :: o11 :: ⟨some dp, .pick (.tmp d) (.tmp x) (.const (.bool false)), ty, pos, after, none⟩ :: rest) s σ Q := h
theorem ExOps.gOr11 {ops : Array Oper} {o1 o2 o3 o4 o5 o6 o7 o8 o9 o10 o11 : Oper} {rest : List Oper} {Q : (Nat → PV) → List Ent → Prop} {d x dp : Nat} {ty : TypeId} {pos : String} {after : Array Edge} (h : ExOps P N ops (o1 :: o2 :: o3 :: o4 :: o5 :: o6 :: o7 :: o8 :: o9 :: o10 :: o11 :: ⟨some dp, .pick (.tmp d) (.const (.bool true)) (.tmp x), ty, pos, after, none⟩ :: rest) s σ Q) : ExOps P N ops (o1 :: o2 :: o3 :: o4 :: o5 :: o6 :: o7 :: o8 :: o9 :: o10 :: o11 :: ⟨some dp, .pick (.tmp d) (.const (.bool true)) (.tmp x), ty, pos, after, none⟩ :: rest) s σ Q := h
theorem ExOps.gAnd12 {ops : Array Oper} {o1 o2 o3 o4 o5 o6 o7 o8 o9 o10 o11 o12 : Oper} {rest : List Oper} {Q : (Nat → PV) → List Ent → Prop} {d x dp : Nat} {ty : TypeId} {pos : String} {after : Array Edge} (h : ExOps P N ops (o1 :: o2 :: o3 :: o4 :: o5 :: o6 :: o7 :: o8 :: o9 :: o10 :: o11 :: o12 :: ⟨some dp, .pick (.tmp d) (.tmp x) (.const (.bool false)), ty, pos, after, none⟩ :: rest) s σ Q) : ExOps P N ops (o1 :: o2 :: o3 :: o4 :: o5 :: o6 :: o7 :: o8 :: o9 :: o10 :: o11 :: o12 :: ⟨some dp, .pick (.tmp d) (.tmp x) (.const (.bool false)), ty, pos, after, none⟩ :: rest) s σ Q := h
theorem ExOps.gOr12 {ops : Array Oper} {o1 o2 o3 o4 o5 o6 o7 o8 o9 o10 o11 o12 : Oper} {rest : List Oper} {Q : (Nat → PV) → List Ent → Prop} {d x dp : Nat} {ty : TypeId} {pos : String} {after : Array Edge} (h : ExOps P N ops (o1 :: o2 :: o3 :: o4 :: o5 :: o6 :: o7 :: o8 :: o9 :: o10 :: o11 :: o12 :: ⟨some dp, .pick (.tmp d) (.const (.bool true)) (.tmp x), ty, pos, after, none⟩ :: rest) s σ Q) : ExOps P N ops (o1 :: o2 :: o3 :: o4 :: o5 :: o6 :: o7 :: o8 :: o9 :: o10 :: o11 :: o12 :: ⟨some dp, .pick (.tmp d) (.const (.bool true)) (.tmp x), ty, pos, after, none⟩ :: rest) s σ Q := h
theorem ExOps.gBS {ops : Array Oper} {d : Option Nat} {t : TypeId} {n : Nat} {parts : Array (Nat × Operand)} {ty : TypeId} {pos : String} {after : Array Edge} {gd : Option (Nat × Bool)} {rest : List Oper} {Q : (Nat → PV) → List Ent → Prop} (h : ExOps P N ops (⟨d, .buildSlice t n parts, ty, pos, after, gd⟩ :: rest) s σ Q) : ExOps P N ops (⟨d, .buildSlice t n parts, ty, pos, after, gd⟩ :: rest) s σ Q := h
end
end Go.Mq
