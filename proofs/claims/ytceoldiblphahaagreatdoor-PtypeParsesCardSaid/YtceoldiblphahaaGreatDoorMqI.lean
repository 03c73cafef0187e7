/- The abstract layer, part I: a region that draws its order: one order is walked, a check on numbers says that every other one comes to the same. -/
import Derived.Test.YtceoldiblphahaaGreatDoorMqH
set_option linter.unusedVariables false
set_option linter.unusedSimpArgs false
set_option linter.unusedSectionVars false
namespace Go.Mq
variable [GT]

section
variable {P : Program} {N : Nat} {ops : Array Oper} {E : List Ent} {M : List Nat}

theorem OpOk.congr {o : Oper} {ρ ρ' : Operand → PV} {σ : List Ent} {n : PV → List Ent → Prop} (h : ∀ x ∈ o.op.operands, ρ x = ρ' x) (hn : OpOk P o ρ σ n) : OpOk P o ρ' σ n :=
  fun K a w hs hr => hn K a w hs fun x hx => by rw [h x hx]; exact hr x hx

def GRun (N : Nat) (ops : Array Oper) (o : Oper) (s : Nat → PV) : Prop :=
  o.guard = none ∨ ∃ j want d, o.guard = some (j, want) ∧ (ops[j]?).bind (·.dst) = some d ∧ d < N ∧ s d = .bool want
def GSkip (N : Nat) (ops : Array Oper) (o : Oper) (s : Nat → PV) : Prop :=
  ∃ j want d, o.guard = some (j, want) ∧ (ops[j]?).bind (·.dst) = some d ∧ d < N ∧ s d = .bool (!want)

/-- One operation of the region. -/
def AOp (P : Program) (N : Nat) (ops : Array Oper) (i : Nat) (s : Nat → PV) (σ : List Ent) (K : (Nat → PV) → List Ent → Prop) : Prop :=
  ∃ o, ops[i]? = some o ∧ (∀ t, o.dst = some t → t < N) ∧
    ((GRun N ops o s ∧ ∃ n, OpOk P o (pev s) σ n ∧ ∀ r σ', n r σ' → K (updO s o.dst r) σ') ∨ (GSkip N ops o s ∧ K (updO s o.dst .junk) σ))

/-- It gives v whatever is owned, if E is among it. -/
def AYields (P : Program) (N : Nat) (ops : Array Oper) (E : List Ent) (o : Oper) (v : PV) (s : Nat → PV) : Prop :=
  (GRun N ops o s ∧ ∀ σ : List Ent, (∀ e ∈ E, e ∈ σ) → OpOk P o (pev s) σ fun r σ' => r = v ∧ σ' = σ) ∨ (GSkip N ops o s ∧ v = .junk)

theorem AOp.mono {i : Nat} {s : Nat → PV} {σ : List Ent} {K K' : (Nat → PV) → List Ent → Prop} (h : ∀ s σ, K s σ → K' s σ) (hh : AOp P N ops i s σ K) : AOp P N ops i s σ K' := by
  obtain ⟨o, ho, hd, ⟨hg, n, hn, hk⟩ | ⟨hg, hk⟩⟩ := hh
  · exact ⟨o, ho, hd, .inl ⟨hg, n, hn, fun r σ' hr => h _ _ (hk r σ' hr)⟩⟩
  · exact ⟨o, ho, hd, .inr ⟨hg, h _ _ hk⟩⟩

def Keeps (E : List Ent) (M : List Nat) (i : Nat) (σ σ' : List Ent) : Prop := i ∈ M → (∀ e ∈ E, e ∈ σ) → ∀ e ∈ E, e ∈ σ'

def AnyA (P : Program) (N : Nat) (ops : Array Oper) (E : List Ent) (M : List Nat) (Q : (Nat → PV) → List Ent → Prop) : Nat → Array Bool → (Nat → PV) → List Ent → Prop
  | 0, listed, s, σ => Region.ready .any ops listed = [] ∧ Q s σ
  | fuel + 1, listed, s, σ =>
    (Region.ready .any ops listed = [] → Q s σ) ∧ ∀ i ∈ Region.ready .any ops listed, AOp P N ops i s σ fun s' σ' => Keeps E M i σ σ' ∧ AnyA P N ops E M Q fuel (listed.setIfInBounds i true) s' σ'

theorem updO_comm (s : Nat → PV) {x y : Option Nat} (v u : PV) (h : ∀ d, x = some d → y ≠ some d) : updO (updO s x v) y u = updO (updO s y u) x v := by
  cases x with
  | none => rfl
  | some d =>
    cases y with
    | none => rfl
    | some e =>
      have hne : d ≠ e := fun he => h d rfl (by rw [he])
      funext i
      simp only [updO, upd]
      by_cases h1 : i = d
      · subst h1
        have : Nat.beq i e = false := by
          cases hq : Nat.beq i e
          · rfl
          · exact absurd (Nat.eq_of_beq_eq_true hq) hne
        simp [this]
      · have : Nat.beq i d = false := by
          cases hq : Nat.beq i d
          · rfl
          · exact absurd (Nat.eq_of_beq_eq_true hq) h1
        simp [this]
theorem updO_get {s : Nat → PV} {x : Option Nat} {v : PV} {t : Nat} (h : x ≠ some t) : updO s x v t = s t := by
  cases x with
  | none => rfl
  | some d =>
    have : Nat.beq t d = false := by
      cases hq : Nat.beq t d
      · rfl
      · exact absurd (by rw [Nat.eq_of_beq_eq_true hq]) h
    simp [updO, upd, this]
theorem pev_updO {s : Nat → PV} {x : Option Nat} {v : PV} {y : Operand} (h : ∀ d, x = some d → y ≠ .tmp d) : pev (updO s x v) y = pev s y := by
  cases y with
  | tmp t => exact updO_get (fun e => h t e rfl)
  | _ => rfl

theorem gd_mem {o : Oper} {j d : Nat} {want : Bool} (hg : o.guard = some (j, want)) (hd : (ops[j]?).bind (·.dst) = some d) : d ∈ o.looksAt ops := by
  unfold Oper.looksAt
  simp [hg, hd]
theorem GRun.at_ {o : Oper} {s : Nat → PV} {x : Option Nat} {v : PV} (hx : ∀ d, x = some d → d ∉ o.looksAt ops) : GRun N ops o (updO s x v) ↔ GRun N ops o s := by
  constructor
  · rintro (h | ⟨j, want, d, h1, h2, h3, h4⟩)
    · exact .inl h
    · exact .inr ⟨j, want, d, h1, h2, h3, by rw [updO_get (fun e => hx d e (gd_mem h1 h2))] at h4; exact h4⟩
  · rintro (h | ⟨j, want, d, h1, h2, h3, h4⟩)
    · exact .inl h
    · exact .inr ⟨j, want, d, h1, h2, h3, by rw [updO_get (fun e => hx d e (gd_mem h1 h2))]; exact h4⟩
theorem GSkip.at_ {o : Oper} {s : Nat → PV} {x : Option Nat} {v : PV} (hx : ∀ d, x = some d → d ∉ o.looksAt ops) : GSkip N ops o (updO s x v) ↔ GSkip N ops o s := by
  constructor
  · rintro ⟨j, want, d, h1, h2, h3, h4⟩
    exact ⟨j, want, d, h1, h2, h3, by rw [updO_get (fun e => hx d e (gd_mem h1 h2))] at h4; exact h4⟩
  · rintro ⟨j, want, d, h1, h2, h3, h4⟩
    exact ⟨j, want, d, h1, h2, h3, by rw [updO_get (fun e => hx d e (gd_mem h1 h2))]; exact h4⟩
theorem op_pev {o : Oper} {s : Nat → PV} {x : Option Nat} {v : PV} (hx : ∀ d, x = some d → d ∉ o.looksAt ops) : ∀ y ∈ o.op.operands, pev (updO s x v) y = pev s y := fun y hy =>
  pev_updO fun d hd hyd => hx d hd (by
    subst hyd
    exact List.mem_append_left _ (List.mem_filterMap.2 ⟨.tmp d, by simpa using hy, rfl⟩))
theorem AYields.at_ {o : Oper} {s : Nat → PV} {x : Option Nat} {v u : PV} (hx : ∀ d, x = some d → d ∉ o.looksAt ops) (h : AYields P N ops E o v s) : AYields P N ops E o v (updO s x u) := by
  rcases h with ⟨h1, h2⟩ | ⟨h1, h2⟩
  · exact .inl ⟨(GRun.at_ hx).2 h1, fun σ hE => OpOk.congr (fun y hy => (op_pev hx y hy).symm) (h2 σ hE)⟩
  · exact .inr ⟨(GSkip.at_ hx).2 h1, h2⟩

theorem AOp.put {i j : Nat} {oi oj : Oper} {v : PV} (hj : ops[j]? = some oj) (hap : oi.apart ops oj = true) {K : (Nat → PV) → List Ent → Prop} {s : Nat → PV} {σ : List Ent} (hy : AYields P N ops E oi v s) (h : AOp P N ops j (updO s oi.dst v) σ K) :
    AOp P N ops j s σ fun s' σ' => AYields P N ops E oi v s' ∧ K (updO s' oi.dst v) σ' := by
  obtain ⟨h1, h2, h3⟩ := Oper.apart_spec hap
  obtain ⟨o, ho, hd, hh⟩ := h
  rw [hj] at ho; cases ho
  refine ⟨oj, hj, hd, ?_⟩
  rcases hh with ⟨hg, n, hn, hk⟩ | ⟨hg, hk⟩
  · refine .inl ⟨(GRun.at_ h1).1 hg, n, OpOk.congr (op_pev h1) hn, fun r σ' hr => ⟨hy.at_ h3, ?_⟩⟩
    rw [← updO_comm s v r h2]; exact hk r σ' hr
  · refine .inr ⟨(GSkip.at_ h1).1 hg, hy.at_ h3, ?_⟩
    rw [← updO_comm s v .junk h2]; exact hk

theorem AYields.aop {i : Nat} {o : Oper} {v : PV} {s : Nat → PV} {σ : List Ent} (hi : ops[i]? = some o) (hd : ∀ t, o.dst = some t → t < N) (hE : ∀ e ∈ E, e ∈ σ) (h : AYields P N ops E o v s) {K : (Nat → PV) → List Ent → Prop} (hk : K (updO s o.dst v) σ) : AOp P N ops i s σ K := by
  refine ⟨o, hi, hd, ?_⟩
  rcases h with ⟨h1, h2⟩ | ⟨h1, rfl⟩
  · exact .inl ⟨h1, _, h2 σ hE, fun r σ' ⟨e1, e2⟩ => by rw [e1, e2]; exact hk⟩
  · exact .inr ⟨h1, hk⟩

theorem AnyA.first {Q : (Nat → PV) → List Ent → Prop} {i : Nat} {oi : Oper} {v : PV} {E' : List Ent} (hEE : E' = [] ∨ E' = E) (hi : ops[i]? = some oi) (hdN : ∀ t, oi.dst = some t → t < N) :
    ∀ (fuel : Nat) (listed : Array Bool) (s : Nat → PV) (σ : List Ent),
      (∀ j oj, ops[j]? = some oj → j ≠ i → listed.getD j true = false → (∀ e ∈ oj.after, Region.binds .any e = true → e.on ≠ i) → oi.apart ops oj = true ∧ (j ∈ M ∨ E' = [])) →
      i ∈ Region.ready .any ops listed → AYields P N ops E' oi v s → (∀ e ∈ E', e ∈ σ) →
      AnyA P N ops E M Q fuel (listed.setIfInBounds i true) (updO s oi.dst v) σ → AnyA P N ops E M Q (fuel + 1) listed s σ := by
  intro fuel
  induction fuel with
  | zero =>
    intro listed s σ _ hr hy hE H
    refine ⟨fun h => (by rw [h] at hr; cases hr), fun j hj => ?_⟩
    by_cases hji : j = i
    · subst hji; exact hy.aop hi hdN hE ⟨fun _ h => h, H⟩
    · have := ready_mono hj hji
      rw [H.1] at this
      cases this
  | succ fuel ih =>
    intro listed s σ hfree hr hy hE H
    refine ⟨fun h => (by rw [h] at hr; cases hr), fun j hj => ?_⟩
    by_cases hji : j = i
    · subst hji; exact hy.aop hi hdN hE ⟨fun _ h => h, H⟩
    · have h1 := H.2 j (ready_mono hj hji)
      obtain ⟨hjun, oj, hoj, hall⟩ := mem_ready.1 hj
      have hnot : ∀ e ∈ oj.after, Region.binds .any e = true → e.on ≠ i := fun e he hb heq => by
        have h1 := hall e he hb
        have h0 := (mem_ready.1 hr).1
        rw [heq] at h1
        rcases Nat.lt_or_ge i listed.size with h' | h'
        · simp [h'] at h0 h1; rw [h0] at h1; cases h1
        · simp [Array.getElem?_eq_none h'] at h1
      obtain ⟨hap, hM⟩ := hfree j oj hoj hji hjun hnot
      have h2 := AOp.put (i := i) hoj hap hy h1
      have hfree' : ∀ k ok, ops[k]? = some ok → k ≠ i → (listed.setIfInBounds j true).getD k true = false →
          (∀ e ∈ ok.after, Region.binds .any e = true → e.on ≠ i) → oi.apart ops ok = true ∧ (k ∈ M ∨ E' = []) := fun k ok hk hki hun hno => by
        refine hfree k ok hk hki ?_ hno
        by_cases hjk : j = k
        · subst hjk; exact hjun
        · rw [getD_set_ne true hjk] at hun; exact hun
      refine AOp.mono (fun s' σ' h3 => ⟨h3.2.1, ih (listed.setIfInBounds j true) s' σ' hfree' (ready_mono hr (Ne.symm hji)) h3.1 ?_ ?_⟩) h2
      · rcases hEE with rfl | rfl
        · intro e he; cases he
        · rcases hM with hM | hM
          · exact h3.2.1 hM hE
          · rw [hM]; intro e he; cases he
      · rw [Array.setIfInBounds_comm _ _ hji]
        exact h3.2.2

/-- The walk along one order. 'take': what hangs on no owned thing (or on E alone); 'seq': what stands alone. -/
inductive Way where
  | take (i : Nat)
  | read (i : Nat)
  | seq (i : Nat)

def DEx (P : Program) (N : Nat) (ops : Array Oper) (E : List Ent) (M : List Nat) (Q : (Nat → PV) → List Ent → Prop) : List Way → (Nat → PV) → List Ent → Prop
  | [], s, σ => Q s σ
  | .take i :: rest, s, σ => ∃ o v, ops[i]? = some o ∧ (∀ t, o.dst = some t → t < N) ∧ AYields P N ops [] o v s ∧ DEx P N ops E M Q rest (updO s o.dst v) σ
  | .read i :: rest, s, σ => ∃ o v, ops[i]? = some o ∧ (∀ t, o.dst = some t → t < N) ∧ AYields P N ops E o v s ∧ (∀ e ∈ E, e ∈ σ) ∧ DEx P N ops E M Q rest (updO s o.dst v) σ
  | .seq i :: rest, s, σ => AOp P N ops i s σ fun s' σ' => Keeps E M i σ σ' ∧ DEx P N ops E M Q rest s' σ'

def Region.waitsB (ops : Array Oper) (j i : Nat) : Bool :=
  match ops[j]? with
  | some oj => oj.after.any fun e => Region.binds .any e && e.on == i
  | none => true
def Region.freeM (ops : Array Oper) (M : List Nat) (listed : Array Bool) (i : Nat) : Bool :=
  (List.range ops.size).all fun j => j == i || listed.getD j true || Region.waitsB ops j i || M.contains j
def planB (ops : Array Oper) (M : List Nat) : List Way → Array Bool → Bool
  | [], listed => (Region.ready .any ops listed).isEmpty
  | .take i :: r, listed => (Region.ready .any ops listed).contains i && Region.free .any ops listed i && planB ops M r (listed.setIfInBounds i true)
  | .read i :: r, listed => (Region.ready .any ops listed).contains i && Region.free .any ops listed i && Region.freeM ops M listed i && planB ops M r (listed.setIfInBounds i true)
  | .seq i :: r, listed => decide (Region.ready .any ops listed = [i]) && planB ops M r (listed.setIfInBounds i true)

theorem AnyA.ofDEx {Q : (Nat → PV) → List Ent → Prop} : ∀ (ws : List Way) (listed : Array Bool) (s : Nat → PV) (σ : List Ent), planB ops M ws listed = true → DEx P N ops E M Q ws s σ → AnyA P N ops E M Q ws.length listed s σ
  | [], listed, s, σ, hp, h => ⟨by simpa [planB] using hp, h⟩
  | .take i :: r, listed, s, σ, hp, h => by
    simp only [planB, Bool.and_eq_true] at hp
    obtain ⟨⟨hr, hf⟩, hp'⟩ := hp
    obtain ⟨o, v, hi, hd, hy, hk⟩ := h
    exact AnyA.first (E' := []) (.inl rfl) hi hd r.length listed s σ (fun j oj h1 h2 h3 h4 => ⟨Region.free_spec hi hf j oj h1 h2 h3 h4, .inr rfl⟩) (by simpa using hr) hy (fun e he => by cases he) (AnyA.ofDEx r _ _ _ hp' hk)
  | .read i :: r, listed, s, σ, hp, h => by
    simp only [planB, Bool.and_eq_true] at hp
    obtain ⟨⟨⟨hr, hf⟩, hm⟩, hp'⟩ := hp
    obtain ⟨o, v, hi, hd, hy, hE, hk⟩ := h
    refine AnyA.first (E' := E) (.inr rfl) hi hd r.length listed s σ (fun j oj h1 h2 h3 h4 => ⟨Region.free_spec hi hf j oj h1 h2 h3 h4, .inl ?_⟩) (by simpa using hr) hy hE (AnyA.ofDEx r _ _ _ hp' hk)
    simp only [Region.freeM, List.all_eq_true, List.mem_range] at hm
    have hm1 := hm j (Array.getElem?_eq_some_iff.1 h1).1
    simp only [Bool.or_eq_true, beq_iff_eq, h2, h3, Region.waitsB, h1, false_or, Bool.false_eq_true, List.contains_iff_mem] at hm1
    rcases hm1 with hm1 | hm1
    · obtain ⟨e, he, hb⟩ := Array.any_eq_true'.1 hm1
      simp only [Bool.and_eq_true, beq_iff_eq] at hb
      exact absurd hb.2 (h4 e he hb.1)
    · exact hm1
  | .seq i :: r, listed, s, σ, hp, h => by
    simp only [planB, Bool.and_eq_true, decide_eq_true_eq] at hp
    refine ⟨fun h0 => (by rw [hp.1] at h0; cases h0), fun j hj => ?_⟩
    rw [hp.1] at hj
    have hji : j = i := by simpa using hj
    subst hji
    exact AOp.mono (fun s' σ' h2 => ⟨h2.1, AnyA.ofDEx r _ _ _ hp.2 h2.2⟩) h

theorem AnyA.sound {Q : (Nat → PV) → List Ent → Prop} {K : Own} : ∀ (fuel : Nat) (listed : Array Bool) (s : Nat → PV) (σ : List Ent) (a : Act) (w : World), AnyA P N ops E M Q fuel listed s σ → a.tmps.size = N → a.defers = [] → Sep σ K w → SlotRep ((owns σ).or K) w a s → ∀ QQ : Exit → Act → World → Prop,
    (∀ a' w' s' σ', Q s' σ' → a'.tmps.size = N → a'.defers = [] → Sep σ' K w' → SlotRep ((owns σ').or K) w' a' s' → Trans (owns σ) w w' (owns σ') → QQ .normal a' w') → wpAny P .any ops QQ fuel listed a w
  | 0, listed, s, σ, a, w, h, hN, hd, hs, hr, QQ, hq => ⟨h.1, hq a w s σ h.2 hN hd hs hr (Trans.refl _ _)⟩
  | fuel + 1, listed, s, σ, a, w, h, hN, hdf, hs, hr, QQ, hq => by
    refine ⟨fun h0 => hq a w s σ (h.1 h0) hN hdf hs hr (Trans.refl _ _), fun i hi => ?_⟩
    obtain ⟨o, ho, hd, hh⟩ := h.2 i hi
    have hy : ∀ j want d b, o.guard = some (j, want) → (ops[j]?).bind (·.dst) = some d → d < N → s d = .bool b → yielded ops a.tmps j = some b := fun j want d b h1 h2 h3 h4 => by
      have h5 := hr d
      rw [h4] at h5
      have h6 := rep_bool h5
      have h7 : a.tmps[d]? = some (.bool b) := by
        have hlt : d < a.tmps.size := Nat.lt_of_lt_of_eq h3 hN.symm
        simp [hlt] at h6 ⊢; exact h6
      simp [yielded, h2, h7]
    unfold wpOp
    simp only [ho]
    rcases hh with ⟨hg, n, hn, hk⟩ | ⟨⟨j, want, d, h1, h2, h3, h4⟩, hk⟩
    · have hw : Region.wanted o (yielded ops a.tmps) = true := by
        rcases hg with hg | ⟨j, want, d, h1, h2, h3, h4⟩
        · simp [Region.wanted, hg]
        · simp [Region.wanted, h1, hy j want d want h1 h2 h3 h4]
      rw [if_pos hw]
      refine .inl (hn K a w hs (fun x _ => hr.eval x) _ _ fun v r σ' w' g1 g2 g3 g4 => ?_)
      exact AnyA.sound fuel _ _ _ _ _ (hk r σ' g1).2 (by rw [put_size, hN]) (by rw [put_defers, hdf]) g2 ((hr.trans g4).put (fun t ht => by rw [hN]; exact hd t ht) g3) QQ fun a'' w'' s'' σ'' e1 e2 e3 e4 e5 e6 => hq a'' w'' s'' σ'' e1 e2 e3 e4 e5 (g4.trans e6)
    · have hw : ¬ Region.wanted o (yielded ops a.tmps) = true := by
        simp [Region.wanted, h1, hy j want d _ h1 h2 h3 h4]
      rw [if_neg hw]
      exact AnyA.sound fuel _ _ _ _ _ hk.2 (by rw [put_size, hN]) (by rw [put_defers, hdf]) hs (hr.put (fun t ht => by rw [hN]; exact hd t ht) (.junk _)) QQ hq

/-- A region that draws its order. -/
theorem Ex.draw (hm : P.follows .mixedOrders = true) {id : Nat} {s : Nat → PV} {σ : List Ent} {Q : Exit → (Nat → PV) → List Ent → Prop} (ws : List Way) (E : List Ent) (M : List Nat) (hp : (ws.length == ops.size && planB ops M ws (Array.replicate ops.size false)) = true) (h : DEx P N ops E M (Q .normal) ws s σ) : Ex P N (.region id ops true) s σ Q := by
  intro K a w hN hd hs hr QQ hq
  simp only [Bool.and_eq_true, beq_iff_eq] at hp
  refine wp_region_any hm ?_
  rw [← hp.1]
  have q := Quiet.drew w
  refine AnyA.sound (Q := Q .normal) (K := K) ws.length _ s σ a _ (AnyA.ofDEx ws _ s σ (by rw [hp.1]; exact hp.2) h) hN hd (q.sep hs) (hr.trans q.to) QQ fun a' w' s' σ' h1 h2 h3 h4 h5 h6 => hq .normal a' w' s' σ' h1 h2 h3 h4 h5 (q.to.trans h6)

theorem DEx.take {Q : (Nat → PV) → List Ent → Prop} {T : TT} (hT : TOk P T) {i : Nat} {rest : List Way} {s : Nat → PV} {σ : List Ent} {o : Oper} {v : PV} (ho : ops[i]? = some o) (hg : o.guard = none) (hd : ∀ t, o.dst = some t → t < N) (hv : acalc T o.op (pev s) = some v) (h : DEx P N ops E M Q rest (updO s o.dst v) σ) : DEx P N ops E M Q (.take i :: rest) s σ :=
  ⟨o, v, ho, hd, .inl ⟨.inl hg, fun σ _ => OpOk.calc hT hv⟩, h⟩
theorem DEx.takeOp {Q : (Nat → PV) → List Ent → Prop} {i : Nat} {rest : List Way} {s : Nat → PV} {σ : List Ent} {o : Oper} {v : PV} (ho : ops[i]? = some o) (hg : o.guard = none) (hd : ∀ t, o.dst = some t → t < N) (hv : ∀ σ, OpOk P o (pev s) σ fun r σ' => r = v ∧ σ' = σ) (h : DEx P N ops E M Q rest (updO s o.dst v) σ) : DEx P N ops E M Q (.take i :: rest) s σ :=
  ⟨o, v, ho, hd, .inl ⟨.inl hg, fun σ _ => hv σ⟩, h⟩
theorem DEx.takeG {Q : (Nat → PV) → List Ent → Prop} {i j d : Nat} {want b : Bool} {rest : List Way} {s : Nat → PV} {σ : List Ent} {o : Oper} (ho : ops[i]? = some o) (hg : o.guard = some (j, want)) (hj : (ops[j]?).bind (·.dst) = some d) (hdN : d < N) (hb : s d = .bool b) (hd : ∀ t, o.dst = some t → t < N)
    (hrun : b = want → ∃ v, (∀ σ, OpOk P o (pev s) σ fun r σ' => r = v ∧ σ' = σ) ∧ DEx P N ops E M Q rest (updO s o.dst v) σ) (hskip : b = !want → DEx P N ops E M Q rest (updO s o.dst .junk) σ) : DEx P N ops E M Q (.take i :: rest) s σ := by
  by_cases hw : b = want
  · obtain ⟨v, hv, h⟩ := hrun hw
    exact ⟨o, v, ho, hd, .inl ⟨.inr ⟨j, want, d, hg, hj, hdN, by rw [hb, hw]⟩, fun σ _ => hv σ⟩, h⟩
  · have hw' : b = !want := by cases b <;> cases want <;> simp_all
    exact ⟨o, .junk, ho, hd, .inr ⟨⟨j, want, d, hg, hj, hdN, by rw [hb, hw']⟩, rfl⟩, hskip hw'⟩
theorem DEx.read {Q : (Nat → PV) → List Ent → Prop} {i : Nat} {rest : List Way} {s : Nat → PV} {σ : List Ent} {o : Oper} {v : PV} (ho : ops[i]? = some o) (hg : o.guard = none) (hd : ∀ t, o.dst = some t → t < N) (hv : ∀ σ : List Ent, (∀ e ∈ E, e ∈ σ) → OpOk P o (pev s) σ fun r σ' => r = v ∧ σ' = σ) (hE : ∀ e ∈ E, e ∈ σ) (h : DEx P N ops E M Q rest (updO s o.dst v) σ) : DEx P N ops E M Q (.read i :: rest) s σ :=
  ⟨o, v, ho, hd, .inl ⟨.inl hg, hv⟩, hE, h⟩
theorem DEx.seq {Q : (Nat → PV) → List Ent → Prop} {i : Nat} {rest : List Way} {s : Nat → PV} {σ : List Ent} {o : Oper} {n : PV → List Ent → Prop} (ho : ops[i]? = some o) (hg : o.guard = none) (hd : ∀ t, o.dst = some t → t < N) (hn : OpOk P o (pev s) σ n) (h : ∀ r σ', n r σ' → Keeps E M i σ σ' ∧ DEx P N ops E M Q rest (updO s o.dst r) σ') : DEx P N ops E M Q (.seq i :: rest) s σ :=
  ⟨o, ho, hd, .inl ⟨.inl hg, n, hn, h⟩⟩
end
end Go.Mq
