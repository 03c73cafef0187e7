/- The abstract layer, part Z2: owned things in another order; drawn regions with one call that writes. -/
import Derived.Test.YtceoldiblphahaaGreatDoorMqZ
set_option linter.unusedVariables false
set_option linter.unusedSimpArgs false
set_option linter.unusedSectionVars false
namespace Go.Mq
variable [GT]
section
variable {P : Program} {N : Nat} {s : Nat → PV} {σ : List Ent}

theorem Ex.perm {c : Code} {Q : Exit → (Nat → PV) → List Ent → Prop} {τ : List Ent} (hp : σ.Perm τ) (h : Ex P N c s τ Q) : Ex P N c s σ Q := by
  intro K a w hN hd hs hr QQ hq
  have e := owns_perm_eq hp
  refine h K a w hN hd (hs.perm hp) (by rw [← e]; exact hr) QQ (fun ee a' w' s' σ' h1 h2 h3 h4 h5 h6 => hq ee a' w' s' σ' h1 h2 h3 h4 h5 (by rw [e]; exact h6))
/-- What is let go. -/
theorem Ex.dropE {c : Code} {Q : Exit → (Nat → PV) → List Ent → Prop} (drop : List Ent) (h : Ex P N c s σ Q) : Ex P N c s (drop ++ σ) Q := by
  intro K a w hN hd hs hr QQ hq
  refine h K a w hN hd hs.dropped (fun t => drop_sub (hr t)) QQ (fun ee a' w' s' σ' h1 h2 h3 h4 h5 h6 => hq ee a' w' s' σ' h1 h2 h3 h4 h5 ?_)
  exact ⟨h6.os, h6.tape, h6.output, h6.size, fun b j c ho hc => h6.cell b j c (fun h1 => ho (owns_append.2 (.inr h1))) hc, fun b hb ho => h6.block b hb (fun j h1 => ho j (owns_append.2 (.inr h1))), fun b j ho => (h6.own b j ho).imp (fun h1 => owns_append.2 (.inr h1)) id⟩
theorem Callable.frameAt {f : FuncId} {args : List PV} {Q : PV → List Ent → Prop} (pre : List Ent) {τ : List Ent} (h : Callable P f args τ Q) : Callable P f args (pre ++ τ) fun r σ'' => ∃ σ', σ'' = pre ++ σ' ∧ Q r σ' := by
  have h1 := (h.frame pre).perm (σ := pre ++ τ) List.perm_append_comm
  refine ⟨h1.1, fun K w vals hs hr => (h1.2 K w vals hs hr).mono ?_⟩
  rintro e w' ⟨v, r, σ', rfl, ⟨σ'', rfl, hq⟩, hS, hR, hT⟩
  have hp : (σ'' ++ pre).Perm (pre ++ σ'') := List.perm_append_comm
  refine ⟨v, r, pre ++ σ'', rfl, ⟨σ'', rfl, hq⟩, hS.perm hp, ?_, ?_⟩
  · rw [← owns_perm_eq hp]; exact hR
  · rw [← owns_perm_eq hp]; exact hT
/-- Behind a row of one's own. -/
theorem OpOk.appB {T : TT} (hT : TOk P T) {o : Oper} {xs xx : Operand} {t tx e ex : TypeId} {it ie itx : TI} (ho : o.op = .call ⟨.builtin .append, #[xs, xx], #[t, tx]⟩) {ρ : Operand → PV} (ht : T t = some it) (hd : it.desc = .slice e) (he : T e = some ie) {m : Nat} (hm : ie.size = m) (hm0 : m ≠ 0) (hb : ie.bytes ≤ 1024) (htx : T tx = some itx) (hdx : itx.desc = .slice ex)
    {u : Value} {cs ys : List PV} {n : Nat} (hxs : ρ xs = .own u cs n) (pre : List Ent) {post : List Ent} (hσ : σ = pre ++ .spare u m :: post) (hcl : cs.length = n * m) (hx : ρ xx = .ful ys 1) (hl : ys.length = m) (hone : ys.all PV.one = true) (hn : n ≤ 1000000000) :
    OpOk P o ρ σ fun r σ' => ∃ v, r = .own v (cs ++ ys) (n + 1) ∧ σ' = pre ++ .spare v m :: post := by
  subst hm
  refine OpOk.appendOwn hT ho ht hd he hm0 htx hxs hσ hcl (k := 1) (by rw [hx]; rfl) (by omega) hone (by rw [hx]; exact ⟨ex, hdx⟩) ?_ (by omega)
  calc (n + 1) * ie.bytes ≤ (n + 1) * 1024 := Nat.mul_le_mul_left _ hb
    _ ≤ 140737488355328 := by omega
/-- Behind none. -/
theorem OpOk.appNB {T : TT} (hT : TOk P T) {o : Oper} {xs xx : Operand} {t tx e ex : TypeId} {it ie itx : TI} (ho : o.op = .call ⟨.builtin .append, #[xs, xx], #[t, tx]⟩) {ρ : Operand → PV} (ht : T t = some it) (hd : it.desc = .slice e) (he : T e = some ie) {m : Nat} (hm : ie.size = m) (hm0 : m ≠ 0) (hb : ie.bytes ≤ 1024) (htx : T tx = some itx) (hdx : itx.desc = .slice ex)
    {ys : List PV} (hxs : ρ xs = .nils) (hx : ρ xx = .ful ys 1) (hl : ys.length = m) (hone : ys.all PV.one = true) :
    OpOk P o ρ σ fun r σ' => ∃ v, r = .own v ys 1 ∧ σ' = .spare v m :: σ := by
  subst hm
  refine OpOk.appendFul hT ho ht hd he hm0 htx (cs := []) (n := 0) (.inr ⟨hxs, rfl, rfl⟩) (by simp) (k := 1) (by rw [hx]; rfl) (by omega) hone (by rw [hx]; exact ⟨ex, hdx⟩) ?_ (by omega)
  omega
theorem OpOk.permR {o : Oper} {ρ : Operand → PV} {n n' : PV → List Ent → Prop} (h : OpOk P o ρ σ n) (hn : ∀ r σ', n r σ' → ∃ τ, σ'.Perm τ ∧ n' r τ) : OpOk P o ρ σ n' := by
  intro K a w hs hr kk QQ hk
  refine h K a w hs hr kk QQ fun v r σ' w' h1 h2 h3 h4 => ?_
  obtain ⟨τ, hp, hq⟩ := hn r σ' h1
  have e := owns_perm_eq hp
  exact hk v r τ w' hq (h2.perm hp) (by rw [← e]; exact h3) (by rw [← e]; exact h4)
/-- Behind no row; the right to append stands behind pre. -/
theorem OpOk.appNAt {T : TT} (hT : TOk P T) {o : Oper} {xs xx : Operand} {t tx e ex : TypeId} {it ie itx : TI} (ho : o.op = .call ⟨.builtin .append, #[xs, xx], #[t, tx]⟩) {ρ : Operand → PV} (ht : T t = some it) (hd : it.desc = .slice e) (he : T e = some ie) {m : Nat} (hm : ie.size = m) (hm0 : m ≠ 0) (hb : ie.bytes ≤ 1024) (htx : T tx = some itx) (hdx : itx.desc = .slice ex)
    {ys : List PV} (hxs : ρ xs = .nils) (pre : List Ent) {post : List Ent} (hσ : σ = pre ++ post) (hx : ρ xx = .ful ys 1) (hl : ys.length = m) (hone : ys.all PV.one = true) :
    OpOk P o ρ σ fun r σ' => ∃ v, r = .own v ys 1 ∧ σ' = pre ++ .spare v m :: post := by
  refine OpOk.permR (OpOk.appNB hT ho ht hd he hm hm0 hb htx hdx hxs hx hl hone) ?_
  rintro r σ' ⟨v, rfl, rfl⟩
  subst hσ
  exact ⟨_, List.perm_middle.symm, v, rfl, rfl⟩
theorem DEx.takeE {ops : Array Oper} {E : List Ent} {M : List Nat} {Q : (Nat → PV) → List Ent → Prop} {T : TT} (hT : TOk P T) {i d : Nat} {op : Op} {ty : TypeId} {pos : String} {after : Array Edge} {rest : List Way} {r0 r : PV} (ho : ops[i]? = some ⟨some d, op, ty, pos, after, none⟩) (h : acalc T op (pev s) = some r0) (hd : Nat.blt d N = true) (e : r0 = r)
    (k : DEx P N ops E M Q rest (upd s d r) σ) : DEx P N ops E M Q (.take i :: rest) s σ := by
  subst e
  exact DEx.take hT ho rfl (dlt hd) h k
theorem DEx.readE {ops : Array Oper} {E : List Ent} {M : List Nat} {Q : (Nat → PV) → List Ent → Prop} {i d : Nat} {op : Op} {ty : TypeId} {pos : String} {after : Array Edge} {rest : List Way} {v : PV} (ho : ops[i]? = some ⟨some d, op, ty, pos, after, none⟩) (hd : Nat.blt d N = true) (hE : ∀ e ∈ E, e ∈ σ)
    (hv : ∀ σ : List Ent, (∀ e ∈ E, e ∈ σ) → OpOk P ⟨some d, op, ty, pos, after, none⟩ (pev s) σ (Ret v σ)) (k : DEx P N ops E M Q rest (upd s d v) σ) : DEx P N ops E M Q (.read i :: rest) s σ :=
  DEx.read ho rfl (dlt hd) hv hE k
theorem DEx.seqE {ops : Array Oper} {E : List Ent} {M : List Nat} {Q : (Nat → PV) → List Ent → Prop} {i d : Nat} {op : Op} {ty : TypeId} {pos : String} {after : Array Edge} {rest : List Way} {n : PV → List Ent → Prop} (ho : ops[i]? = some ⟨some d, op, ty, pos, after, none⟩) (hd : Nat.blt d N = true)
    (hn : OpOk P ⟨some d, op, ty, pos, after, none⟩ (pev s) σ n) (k : ∀ r σ', n r σ' → Keeps E M i σ σ' ∧ DEx P N ops E M Q rest (upd s d r) σ') : DEx P N ops E M Q (.seq i :: rest) s σ :=
  DEx.seq ho rfl (dlt hd) hn k
theorem DEx.seqE0 {ops : Array Oper} {E : List Ent} {M : List Nat} {Q : (Nat → PV) → List Ent → Prop} {i : Nat} {op : Op} {ty : TypeId} {pos : String} {after : Array Edge} {rest : List Way} {n : PV → List Ent → Prop} (ho : ops[i]? = some ⟨none, op, ty, pos, after, none⟩)
    (hn : OpOk P ⟨none, op, ty, pos, after, none⟩ (pev s) σ n) (k : ∀ r σ', n r σ' → Keeps E M i σ σ' ∧ DEx P N ops E M Q rest s σ') : DEx P N ops E M Q (.seq i :: rest) s σ :=
  DEx.seq ho rfl (fun t h => by cases h) hn k
end
end Go.Mq
