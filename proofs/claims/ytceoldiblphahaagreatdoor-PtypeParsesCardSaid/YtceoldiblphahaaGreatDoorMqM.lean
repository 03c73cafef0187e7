/- The abstract layer, part M: a region that draws its order, of which no operation turns what is owned: it is walked in its written order. -/
import Derived.Test.YtceoldiblphahaaGreatDoorMqL
set_option linter.unusedVariables false
set_option linter.unusedSimpArgs false
set_option linter.unusedSectionVars false
namespace Go.Mq
variable [GT]

section
variable {P : Program} {N : Nat} {ops : Array Oper} {σ : List Ent}

def YieldsR (P : Program) (N : Nat) (ops : Array Oper) (σ : List Ent) (o : Oper) (v : PV) (s : Nat → PV) : Prop :=
  (GRun N ops o s ∧ OpOk P o (pev s) σ fun r σ' => r = v ∧ σ' = σ) ∨ (GSkip N ops o s ∧ v = .junk)
theorem YieldsR.at_ {o : Oper} {s : Nat → PV} {x : Option Nat} {v u : PV} (hx : ∀ d, x = some d → d ∉ o.looksAt ops) : YieldsR P N ops σ o v (updO s x u) ↔ YieldsR P N ops σ o v s := by
  unfold YieldsR
  rw [GRun.at_ hx, GSkip.at_ hx]
  exact ⟨fun h => h.imp (fun ⟨h1, h2⟩ => ⟨h1, OpOk.congr (op_pev hx) h2⟩) id, fun h => h.imp (fun ⟨h1, h2⟩ => ⟨h1, OpOk.congr (fun y hy => (op_pev hx y hy).symm) h2⟩) id⟩

def AnyR (P : Program) (N : Nat) (ops : Array Oper) (σ : List Ent) (Q : (Nat → PV) → List Ent → Prop) : Nat → Array Bool → (Nat → PV) → Prop
  | 0, listed, s => Region.ready .any ops listed = [] ∧ Q s σ
  | fuel + 1, listed, s => (Region.ready .any ops listed = [] → Q s σ) ∧ ∀ i ∈ Region.ready .any ops listed, ∃ o v, ops[i]? = some o ∧ (∀ t, o.dst = some t → t < N) ∧ YieldsR P N ops σ o v s ∧ AnyR P N ops σ Q fuel (listed.setIfInBounds i true) (updO s o.dst v)
theorem AnyR.anyA {Q : (Nat → PV) → List Ent → Prop} : ∀ (fuel : Nat) (listed : Array Bool) (s : Nat → PV), AnyR P N ops σ Q fuel listed s → AnyA P N ops [] [] Q fuel listed s σ
  | 0, _, _, h => h
  | fuel + 1, listed, s, h => ⟨h.1, fun i hi => by
    obtain ⟨o, v, h1, h2, h3, h4⟩ := h.2 i hi
    have key : Keeps [] [] i σ σ := by intro hm; cases hm
    refine ⟨o, h1, h2, ?_⟩
    rcases h3 with ⟨g1, g2⟩ | ⟨g1, rfl⟩
    · exact .inl ⟨g1, _, g2, fun r σ' ⟨e1, e2⟩ => by rw [e1, e2]; exact ⟨key, AnyR.anyA fuel _ _ h4⟩⟩
    · exact .inr ⟨g1, key, AnyR.anyA fuel _ _ h4⟩⟩

theorem AnyR.first {Q : (Nat → PV) → List Ent → Prop} {i : Nat} {oi : Oper} {v : PV} (hi : ops[i]? = some oi) (hdN : ∀ t, oi.dst = some t → t < N) :
    ∀ (fuel : Nat) (listed : Array Bool) (s : Nat → PV),
      (∀ j oj, ops[j]? = some oj → j ≠ i → listed.getD j true = false → (∀ e ∈ oj.after, Region.binds .any e = true → e.on ≠ i) → oi.apart ops oj = true) →
      i ∈ Region.ready .any ops listed → YieldsR P N ops σ oi v s →
      AnyR P N ops σ Q fuel (listed.setIfInBounds i true) (updO s oi.dst v) → AnyR P N ops σ Q (fuel + 1) listed s := by
  intro fuel
  induction fuel with
  | zero =>
    intro listed s _ hr hy H
    refine ⟨fun h => (by rw [h] at hr; cases hr), fun j hj => ?_⟩
    by_cases hji : j = i
    · subst hji; exact ⟨oi, v, hi, hdN, hy, H⟩
    · have := ready_mono hj hji
      rw [H.1] at this
      cases this
  | succ fuel ih =>
    intro listed s hfree hr hy H
    refine ⟨fun h => (by rw [h] at hr; cases hr), fun j hj => ?_⟩
    by_cases hji : j = i
    · subst hji; exact ⟨oi, v, hi, hdN, hy, H⟩
    · obtain ⟨o, u, g1, g2, g3, g4⟩ := H.2 j (ready_mono hj hji)
      obtain ⟨hjun, oj, hoj, hall⟩ := mem_ready.1 hj
      rw [g1] at hoj; cases hoj
      have hnot : ∀ e ∈ o.after, Region.binds .any e = true → e.on ≠ i := fun e he hb heq => by
        have h1 := hall e he hb
        have h0 := (mem_ready.1 hr).1
        rw [heq] at h1
        rcases Nat.lt_or_ge i listed.size with h' | h'
        · simp [h'] at h0 h1; rw [h0] at h1; cases h1
        · simp [Array.getElem?_eq_none h'] at h1
      have hap := hfree j o g1 hji hjun hnot
      obtain ⟨a1, a2, a3⟩ := Oper.apart_spec hap
      refine ⟨o, u, g1, g2, (YieldsR.at_ a1).1 g3, ih (listed.setIfInBounds j true) _ (fun k ok hk hki hun hno => ?_) (ready_mono hr (Ne.symm hji)) ((YieldsR.at_ a3).2 hy) ?_⟩
      · refine hfree k ok hk hki ?_ hno
        by_cases hjk : j = k
        · subst hjk; exact hjun
        · rw [getD_set_ne true hjk] at hun; exact hun
      · rw [Array.setIfInBounds_comm _ _ hji, ← updO_comm s v u a2]
        exact g4

/-- The walk in the written order. -/
def DRd (P : Program) (N : Nat) (ops : Array Oper) (σ : List Ent) (Q : (Nat → PV) → List Ent → Prop) : List Oper → (Nat → PV) → Prop
  | [], s => Q s σ
  | o :: rest, s => ∃ v, (∀ t, o.dst = some t → t < N) ∧ YieldsR P N ops σ o v s ∧ DRd P N ops σ Q rest (updO s o.dst v)

def planR (ops : Array Oper) : Nat → Nat → Array Bool → Bool
  | 0, _, listed => (Region.ready .any ops listed).isEmpty
  | n + 1, i, listed => (Region.ready .any ops listed).contains i && Region.free .any ops listed i && planR ops n (i + 1) (listed.setIfInBounds i true)
theorem AnyR.ofDRd {Q : (Nat → PV) → List Ent → Prop} : ∀ (l : List Oper) (i : Nat) (listed : Array Bool) (s : Nat → PV), (∀ k, l[k]? = ops[i + k]?) → planR ops l.length i listed = true → DRd P N ops σ Q l s → AnyR P N ops σ Q l.length listed s
  | [], i, listed, s, hl, hp, h => ⟨by simpa [planR] using hp, h⟩
  | o :: l, i, listed, s, hl, hp, h => by
    simp only [List.length_cons, planR, Bool.and_eq_true] at hp
    obtain ⟨⟨hr, hf⟩, hp'⟩ := hp
    obtain ⟨v, hd, hy, hk⟩ := h
    have hi : ops[i]? = some o := by simpa using (hl 0).symm
    exact AnyR.first hi hd l.length listed s (fun j oj h1 h2 h3 h4 => Region.free_spec hi hf j oj h1 h2 h3 h4) (by simpa using hr) hy (AnyR.ofDRd l (i + 1) _ _ (fun k => by rw [show i + 1 + k = i + (k + 1) by omega, ← hl (k + 1)]; simp) hp' hk)
theorem Ex.drawR (hm : P.follows .mixedOrders = true) {id : Nat} {l : List Oper} {s : Nat → PV} {Q : Exit → (Nat → PV) → List Ent → Prop} (hp : planR l.toArray l.length 0 (Array.replicate l.length false) = true) (h : DRd P N l.toArray σ (Q .normal) l s) : Ex P N (.region id l.toArray true) s σ Q := by
  intro K a w hN hd hs hr QQ hq
  refine wp_region_any hm ?_
  have q := Quiet.drew w
  have hA := AnyR.anyA _ _ _ (AnyR.ofDRd l 0 _ s (fun k => by simp) hp h)
  rw [show l.toArray.size = l.length by simp]
  refine AnyA.sound (Q := Q .normal) (K := K) l.length _ s σ a _ hA hN hd (q.sep hs) (hr.trans q.to) QQ fun a' w' s' σ' h1 h2 h3 h4 h5 h6 => hq .normal a' w' s' σ' h1 h2 h3 h4 h5 (q.to.trans h6)

variable {s : Nat → PV}
theorem DRd.nil {Q : (Nat → PV) → List Ent → Prop} (h : Q s σ) : DRd P N ops σ Q [] s := h
theorem dlt {d N : Nat} (hd : Nat.blt d N = true) : ∀ t, some d = some t → t < N := fun t h => by cases h; simpa [Nat.blt_eq] using hd
theorem DRd.calcE {T : TT} (hT : TOk P T) {d : Nat} {op : Op} {ty : TypeId} {pos : String} {after : Array Edge} {rest : List Oper} {Q : (Nat → PV) → List Ent → Prop} {r0 r : PV} (h : acalc T op (pev s) = some r0) (hd : Nat.blt d N = true) (e : r0 = r) (k : DRd P N ops σ Q rest (upd s d r)) :
    DRd P N ops σ Q (⟨some d, op, ty, pos, after, none⟩ :: rest) s := ⟨r, dlt hd, .inl ⟨.inl rfl, OpOk.calc hT (by rw [h, e])⟩, k⟩
theorem DRd.opR {d : Nat} {op : Op} {ty : TypeId} {pos : String} {after : Array Edge} {rest : List Oper} {Q : (Nat → PV) → List Ent → Prop} {X : PV} (h : OpOk P ⟨some d, op, ty, pos, after, none⟩ (pev s) σ (Ret X σ)) (hd : Nat.blt d N = true) (k : DRd P N ops σ Q rest (upd s d X)) :
    DRd P N ops σ Q (⟨some d, op, ty, pos, after, none⟩ :: rest) s := ⟨X, dlt hd, .inl ⟨.inl rfl, h⟩, k⟩
theorem DRd.calcGE {T : TT} (hT : TOk P T) {j d' d : Nat} {want : Bool} {op : Op} {ty : TypeId} {pos : String} {after : Array Edge} {rest : List Oper} {Q : (Nat → PV) → List Ent → Prop} {r0 r : PV} (hj : (ops[j]?).bind (·.dst) = some d') (hd' : Nat.blt d' N = true) (hb : s d' = .bool want)
    (h : acalc T op (pev s) = some r0) (hd : Nat.blt d N = true) (e : r0 = r) (k : DRd P N ops σ Q rest (upd s d r)) : DRd P N ops σ Q (⟨some d, op, ty, pos, after, some (j, want)⟩ :: rest) s :=
  ⟨r, dlt hd, .inl ⟨.inr ⟨j, want, d', rfl, hj, by simpa [Nat.blt_eq] using hd', hb⟩, OpOk.calc hT (by rw [h, e])⟩, k⟩
theorem DRd.opRG {j d' d : Nat} {want : Bool} {op : Op} {ty : TypeId} {pos : String} {after : Array Edge} {rest : List Oper} {Q : (Nat → PV) → List Ent → Prop} {X : PV} (hj : (ops[j]?).bind (·.dst) = some d') (hd' : Nat.blt d' N = true) (hb : s d' = .bool want)
    (h : OpOk P ⟨some d, op, ty, pos, after, some (j, want)⟩ (pev s) σ (Ret X σ)) (hd : Nat.blt d N = true) (k : DRd P N ops σ Q rest (upd s d X)) : DRd P N ops σ Q (⟨some d, op, ty, pos, after, some (j, want)⟩ :: rest) s :=
  ⟨X, dlt hd, .inl ⟨.inr ⟨j, want, d', rfl, hj, by simpa [Nat.blt_eq] using hd', hb⟩, h⟩, k⟩
theorem DRd.skipG {j d' d : Nat} {want : Bool} {op : Op} {ty : TypeId} {pos : String} {after : Array Edge} {rest : List Oper} {Q : (Nat → PV) → List Ent → Prop} (hj : (ops[j]?).bind (·.dst) = some d') (hd' : Nat.blt d' N = true) (hb : s d' = .bool (!want)) (hd : Nat.blt d N = true)
    (k : DRd P N ops σ Q rest (upd s d .junk)) : DRd P N ops σ Q (⟨some d, op, ty, pos, after, some (j, want)⟩ :: rest) s :=
  ⟨.junk, dlt hd, .inr ⟨⟨j, want, d', rfl, hj, by simpa [Nat.blt_eq] using hd', hb⟩, rfl⟩, k⟩
theorem DRd.guard {l : List Oper} {Q : (Nat → PV) → List Ent → Prop} {d : Nat} {b : Bool} (hb : s d = .bool b)
    (hrun : b = true → DRd P N ops σ Q l (upd s d (.bool true))) (hskip : b = false → DRd P N ops σ Q l (upd s d (.bool false))) : DRd P N ops σ Q l s := by
  cases b
  · have := hskip rfl; rwa [upd_self hb] at this
  · have := hrun rfl; rwa [upd_self hb] at this
theorem DRd.guardG {o : Oper} {rest : List Oper} {Q : (Nat → PV) → List Ent → Prop} {j d : Nat} {want : Bool} {b : Bool} {p : Prop} {i : Decidable p} (hg : o.guard = some (j, want)) (hj : (ops[j]?).bind (·.dst) = some d) (hb : s d = .bool b) (hp : b = @decide p i)
    (hrun : p → DRd P N ops σ Q (o :: rest) (upd s d (.bool true))) (hskip : ¬ p → DRd P N ops σ Q (o :: rest) (upd s d (.bool false))) : DRd P N ops σ Q (o :: rest) s := by
  subst hp
  exact DRd.guard hb (fun h => hrun (of_decide_eq_true h)) (fun h => hskip (of_decide_eq_false h))
/-- Gates. -/
theorem DRd.gP {d : Option Nat} {op : Op} {ty : TypeId} {pos : String} {after : Array Edge} {rest : List Oper} {Q : (Nat → PV) → List Ent → Prop} (h : DRd P N ops σ Q (⟨d, op, ty, pos, after, none⟩ :: rest) s) : DRd P N ops σ Q (⟨d, op, ty, pos, after, none⟩ :: rest) s := h
theorem DRd.gPC {d : Option Nat} {c : Call} {ty : TypeId} {pos : String} {after : Array Edge} {rest : List Oper} {Q : (Nat → PV) → List Ent → Prop} (h : DRd P N ops σ Q (⟨d, .call c, ty, pos, after, none⟩ :: rest) s) : DRd P N ops σ Q (⟨d, .call c, ty, pos, after, none⟩ :: rest) s := h
theorem DRd.gG {d : Option Nat} {op : Op} {ty : TypeId} {pos : String} {after : Array Edge} {gd : Nat × Bool} {rest : List Oper} {Q : (Nat → PV) → List Ent → Prop} (h : DRd P N ops σ Q (⟨d, op, ty, pos, after, some gd⟩ :: rest) s) : DRd P N ops σ Q (⟨d, op, ty, pos, after, some gd⟩ :: rest) s := h
theorem DRd.gGC {d : Option Nat} {c : Call} {ty : TypeId} {pos : String} {after : Array Edge} {gd : Nat × Bool} {rest : List Oper} {Q : (Nat → PV) → List Ent → Prop} (h : DRd P N ops σ Q (⟨d, .call c, ty, pos, after, some gd⟩ :: rest) s) : DRd P N ops σ Q (⟨d, .call c, ty, pos, after, some gd⟩ :: rest) s := h
theorem DRd.gIn {j d' : Nat} {want : Bool} {d : Option Nat} {op : Op} {ty : TypeId} {pos : String} {after : Array Edge} {rest : List Oper} {Q : (Nat → PV) → List Ent → Prop} (hj : (ops[j]?).bind (·.dst) = some d') (hb : s d' = .bool want) (h : DRd P N ops σ Q (⟨d, op, ty, pos, after, some (j, want)⟩ :: rest) s) : DRd P N ops σ Q (⟨d, op, ty, pos, after, some (j, want)⟩ :: rest) s := h
end
end Go.Mq
