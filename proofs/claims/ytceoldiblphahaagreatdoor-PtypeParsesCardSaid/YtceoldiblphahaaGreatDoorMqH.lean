/- The abstract layer, part H: operations with bounds; strings; iterators; maps. -/
import Derived.Test.YtceoldiblphahaaGreatDoorMqG
set_option linter.unusedVariables false
set_option linter.unusedSimpArgs false
set_option linter.unusedSectionVars false
namespace Go.Mq
variable [GT]

section
variable {P : Program} {σ : List Ent}

theorem OpOk.ofRun {o : Oper} {ρ : Operand → PV} {r : PV} (h : ∀ (W : Own) (a : Act) (w : World), (∀ x ∈ o.op.operands, Rep W w (a.eval x) (ρ x)) → ∃ v, (execOp a.eval o).run P w = .ok (.value v) w ∧ Rep W w v r) : OpOk P o ρ σ fun r' σ' => r' = r ∧ σ' = σ := by
  intro K a w hs hr kk QQ hk
  obtain ⟨v, h1, h2⟩ := h _ a w hr
  unfold Oper.wp
  rw [h1, Oper.upon_value]
  exact hk v r σ w ⟨rfl, rfl⟩ hs h2 (Trans.refl _ _)

/-- The elements of a slice that is read. -/
def elemsOf : PV → Option (List PV × Nat)
  | .slc cs n => some (cs, n)
  | .own _ cs n => some (cs, n)
  | .ful cs n => some (cs, n)
  | _ => none
theorem rep_elems {W : Own} {w : World} {v : Value} {x : PV} {cs : List PV} {n : Nat} (h : Rep W w v x) (he : elemsOf x = some (cs, n)) : Rep W w v (.slc cs n) := by
  cases x <;> simp only [elemsOf, Option.some.injEq, Prod.mk.injEq, reduceCtorEq] at he
  case slc => obtain ⟨rfl, rfl⟩ := he; exact h
  case ful => obtain ⟨rfl, rfl⟩ := he; exact (rep_ful h).2
  case own => obtain ⟨rfl, rfl⟩ := he; exact (rep_own h).2

theorem OpOk.indexAddr {T : TT} (hT : TOk P T) {o : Oper} {t e : TypeId} {x y : Operand} (ho : o.op = .indexAddr t x y) {ρ : Operand → PV} {it ie : TI} (ht : T t = some it) (hd : it.desc = .slice e) (he : T e = some ie) {cs : List PV} {n : Nat} (hx : elemsOf (ρ x) = some (cs, n))
    {k : IntKind} {i : Int} (hy : ρ y = .int k i) (h0 : 0 ≤ i) (h1 : i < n) (hlt : i.toNat * ie.size < cs.length) : OpOk P o ρ σ fun r σ' => r = .ptr (cs.drop (i.toNat * ie.size)) ∧ σ' = σ := by
  refine OpOk.ofRun fun W a w hr => ?_
  have hu := tt_und hT ht
  rw [hd] at hu
  simp only [DescOk] at hu
  have hx' := rep_elems (hr x (by rw [ho]; simp [Op.operands])) hx
  have hy' := hr y (by rw [ho]; simp [Op.operands])
  rw [hy] at hy'
  obtain ⟨A, cap, hv, hn, hc⟩ := rep_slc hx'
  obtain ⟨b, off, c, rfl, hc1, hc2, hc3⟩ := hc (fun h => by rw [h] at hlt; simp at hlt)
  refine ⟨.pointer (some ⟨b, off + i.toNat * ie.size, none⟩), ?_, .ptr (fun j => c (i.toNat * ie.size + j)) (fun j hj => ?_) (fun j hj => ?_) (fun j y hy => ?_)⟩
  · simp [execOp, ho, hv, rep_int hy', Instr.indexAt, asIntOf, run_underlying' hu, h0, h1, tt_size hT he, add_plain]
  · simp at hj; rw [Nat.add_assoc]; exact hc1 _ (by omega)
  · simp at hj; rw [Nat.add_assoc]; exact hc2 _ (by omega)
  · rw [List.getElem?_drop] at hy; exact hc3 _ y hy

theorem OpOk.indexAddrArr {T : TT} (hT : TOk P T) {o : Oper} {t e : TypeId} {x y : Operand} (ho : o.op = .indexAddr t x y) {ρ : Operand → PV} {it ie : TI} (ht : T t = some it) (hd : it.desc = .slice e) (he : T e = some ie) {b off n : Nat} (hx : ρ x = .arr b off n)
    {k : IntKind} {i : Int} (hy : ρ y = .int k i) (h0 : 0 ≤ i) (h1 : i < n) : OpOk P o ρ σ fun r σ' => r = .loc b (off + i.toNat * ie.size) ∧ σ' = σ := by
  refine OpOk.ofRun fun W a w hr => ?_
  have hu := tt_und hT ht
  rw [hd] at hu
  simp only [DescOk] at hu
  have hx' := hr x (by rw [ho]; simp [Op.operands])
  have hy' := hr y (by rw [ho]; simp [Op.operands])
  rw [hy] at hy'
  rw [hx] at hx'
  obtain ⟨cap, hv, hn⟩ := rep_arr hx'
  exact ⟨_, by simp [execOp, ho, hv, rep_int hy', Instr.indexAt, asIntOf, run_underlying' hu, h0, h1, tt_size hT he, add_plain], .loc _ _⟩

def bat (s : ByteArray) (i : Int) : Int := ((s.data.toList.getD i.toNat 0).toNat : Int)

theorem OpOk.indexStr {T : TT} (hT : TOk P T) {o : Oper} {t : TypeId} {x y : Operand} (ho : o.op = .index t x y) {ρ : Operand → PV} {it : TI} (ht : T t = some it) (hd : it.desc = .str) {s : ByteArray} (hx : ρ x = .str s)
    {k : IntKind} {i : Int} (hy : ρ y = .int k i) (h0 : 0 ≤ i) (h1 : i < s.size) : OpOk P o ρ σ fun r σ' => r = .int .u8 (bat s i) ∧ σ' = σ := by
  refine OpOk.ofRun fun W a w hr => ?_
  have hu := tt_und hT ht
  rw [hd] at hu
  simp only [DescOk] at hu
  have hx' := hr x (by rw [ho]; simp [Op.operands])
  have hy' := hr y (by rw [ho]; simp [Op.operands])
  rw [hx] at hx'; rw [hy] at hy'
  have hlt : i.toNat < s.size := by omega
  have hg : s[i.toNat]? = some s[i.toNat] := by simp [hlt]
  have hb : bat s i = (s[i.toNat].toNat : Int) := by
    have hl : i.toNat < s.data.toList.length := by simpa using hlt
    simp only [bat, List.getD, List.getElem?_eq_getElem hl, Option.getD_some]
    rfl
  exact ⟨.int .u8 (bat s i), by simp [execOp, ho, rep_str hx', rep_int hy', Instr.index, asIntOf, run_underlying' hu, h0, hg, hb], .int _ _⟩

/-- s[lo:hi] of a text. -/
theorem OpOk.sliceStr {T : TT} (hT : TOk P T) {o : Oper} {t : TypeId} {x : Operand} {lo hi : Option Operand} (ho : o.op = .slice t x lo hi none) {ρ : Operand → PV} {it : TI} (ht : T t = some it) (hd : it.desc = .str) {s : ByteArray} (hx : ρ x = .str s) (l h : Int)
    (hl : match lo with | some y => ∃ k, ρ y = .int k l | none => l = 0) (hh : match hi with | some y => ∃ k, ρ y = .int k h | none => h = s.size) (h0 : 0 ≤ l) (h1 : l ≤ h) (h2 : h ≤ s.size) : OpOk P o ρ σ fun r σ' => r = .str (s.extract l.toNat h.toNat) ∧ σ' = σ := by
  refine OpOk.ofRun fun W a w hr => ?_
  have hu := tt_und hT ht
  rw [hd] at hu
  simp only [DescOk] at hu
  have hx' := hr x (by rw [ho]; simp [Op.operands])
  rw [hx] at hx'
  have hv := rep_str hx'
  have hh0 : 0 ≤ h := by omega
  refine ⟨.string (s.extract l.toNat h.toNat), ?_, .str _⟩
  cases lo with
  | none =>
    simp only at hl; subst hl
    cases hi with
    | none =>
      simp only at hh; subst hh
      simp [execOp, ho, hv, Instr.sliceAt, Instr.slice, Instr.sliceBounds, run_underlying' hu]
    | some y =>
      obtain ⟨k, hk⟩ := hh
      have := hr y (by rw [ho]; simp [Op.operands])
      rw [hk] at this
      simp [execOp, ho, hv, rep_int this, Instr.sliceAt, Instr.slice, Instr.sliceBounds, Instr.sliceBound, asIntOf, run_underlying' hu, hh0, h2]
  | some z =>
    obtain ⟨kz, hkz⟩ := hl
    have hz := hr z (by rw [ho]; simp [Op.operands])
    rw [hkz] at hz
    cases hi with
    | none =>
      simp only at hh; subst hh
      simp [execOp, ho, hv, rep_int hz, Instr.sliceAt, Instr.slice, Instr.sliceBounds, Instr.sliceBound, asIntOf, run_underlying' hu, h0, h1]
    | some y =>
      obtain ⟨k, hk⟩ := hh
      have := hr y (by rw [ho]; simp [Op.operands])
      rw [hk] at this
      have h3 : l ≤ max h 0 := by omega
      simp [execOp, ho, hv, rep_int this, rep_int hz, Instr.sliceAt, Instr.slice, Instr.sliceBounds, Instr.sliceBound, asIntOf, run_underlying' hu, h0, hh0, h2, h3]

/-- xs[lo:hi] of a slice, up to its length. -/
theorem OpOk.sliceSlc {T : TT} (hT : TOk P T) {o : Oper} {t e : TypeId} {x : Operand} {lo hi : Option Operand} (ho : o.op = .slice t x lo hi none) {ρ : Operand → PV} {it ie : TI} (ht : T t = some it) (hd : it.desc = .slice e) (he : T e = some ie) {cs : List PV} {n : Nat} (hx : elemsOf (ρ x) = some (cs, n)) (hcl : cs.length = n * ie.size) (l h : Int)
    (hl : match lo with | some y => ∃ k, ρ y = .int k l | none => l = 0) (hh : match hi with | some y => ∃ k, ρ y = .int k h | none => h = n) (h0 : 0 ≤ l) (h1 : l ≤ h) (h2 : h ≤ n) : OpOk P o ρ σ fun r σ' => r = .slc ((cs.drop (l.toNat * ie.size)).take ((h - l).toNat * ie.size)) (h - l).toNat ∧ σ' = σ := by
  refine OpOk.ofRun fun W a w hr => ?_
  have hu := tt_und hT ht
  rw [hd] at hu
  simp only [DescOk] at hu
  have hx' := rep_elems (hr x (by rw [ho]; simp [Op.operands])) hx
  obtain ⟨A, cap, hv, hn, hc⟩ := rep_slc hx'
  have hh0 : 0 ≤ h := by omega
  have hhc : h ≤ (cap : Int) := by omega
  have hlc : l ≤ (cap : Int) := by omega
  have h3 : l ≤ max h 0 := by omega
  have hfin : Rep W w (.slice (if cap = l.toNat then A else A.map (·.add (l.toNat * ie.size))) (h - l).toNat (cap - l.toNat)) (.slc ((cs.drop (l.toNat * ie.size)).take ((h - l).toNat * ie.size)) (h - l).toNat) := by
    by_cases hcs : (cs.drop (l.toNat * ie.size)).take ((h - l).toNat * ie.size) = []
    · rw [hcs]; exact .slc0 _ _ _ (by omega)
    · have hcne : cs ≠ [] := fun h => by rw [h] at hcs; simp at hcs
      obtain ⟨b, off, c, rfl, hc1, hc2, hc3⟩ := hc hcne
      have hne : ¬ cap = l.toNat := fun he0 => by
        have : (h - l).toNat = 0 := by omega
        rw [this] at hcs; simp at hcs
      rw [if_neg hne]
      simp only [Option.map_some, add_plain]
      have hlen : ((cs.drop (l.toNat * ie.size)).take ((h - l).toNat * ie.size)).length ≤ cs.length - l.toNat * ie.size := by
        simp; omega
      refine .slc (fun j => c (l.toNat * ie.size + j)) (by omega) (fun j hj => ?_) (fun j hj => ?_) (fun j y hy => ?_)
      · rw [Nat.add_assoc]; exact hc1 _ (by omega)
      · rw [Nat.add_assoc]; exact hc2 _ (by omega)
      · rw [List.getElem?_take] at hy
        split at hy
        · rw [List.getElem?_drop] at hy; exact hc3 _ y hy
        · cases hy
  cases lo with
  | none =>
    simp only at hl; subst hl
    cases hi with
    | none =>
      simp only at hh; subst hh
      refine ⟨_, ?_, hfin⟩
      simp [execOp, ho, hv, Instr.sliceAt, Instr.slice, Instr.sliceBounds, run_underlying' hu, tt_size hT he]
    | some y =>
      obtain ⟨k, hk⟩ := hh
      have := hr y (by rw [ho]; simp [Op.operands])
      rw [hk] at this
      refine ⟨_, ?_, hfin⟩
      simp [execOp, ho, hv, rep_int this, Instr.sliceAt, Instr.slice, Instr.sliceBounds, Instr.sliceBound, asIntOf, run_underlying' hu, hh0, hhc, tt_size hT he]
  | some z =>
    obtain ⟨kz, hkz⟩ := hl
    have hz := hr z (by rw [ho]; simp [Op.operands])
    rw [hkz] at hz
    cases hi with
    | none =>
      simp only at hh; subst hh
      refine ⟨_, ?_, hfin⟩
      have h4 : ((n : Int) - l).toNat = n - l.toNat := by omega
      simp [execOp, ho, hv, rep_int hz, Instr.sliceAt, Instr.slice, Instr.sliceBounds, Instr.sliceBound, asIntOf, run_underlying' hu, h0, h1, tt_size hT he, h4]
    | some y =>
      obtain ⟨k, hk⟩ := hh
      have := hr y (by rw [ho]; simp [Op.operands])
      rw [hk] at this
      refine ⟨_, ?_, hfin⟩
      have h4 : (h - l).toNat = h.toNat - l.toNat := by omega
      simp [execOp, ho, hv, rep_int this, rep_int hz, Instr.sliceAt, Instr.slice, Instr.sliceBounds, Instr.sliceBound, asIntOf, run_underlying' hu, h0, hh0, hhc, h3, tt_size hT he, h4]

theorem OpOk.strAdd {o : Oper} {t yt : TypeId} {x y : Operand} (ho : o.op = .binOp .add t x y yt) {ρ : Operand → PV} {a b : ByteArray} (hx : ρ x = .str a) (hy : ρ y = .str b) (hle : a.size + b.size ≤ 9223372036854775807) : OpOk P o ρ σ fun r σ' => r = .str (a ++ b) ∧ σ' = σ := by
  refine OpOk.ofRun fun W ac w hr => ?_
  have hx' := hr x (by rw [ho]; simp [Op.operands])
  have hy' := hr y (by rw [ho]; simp [Op.operands])
  rw [hx] at hx'; rw [hy] at hy'
  refine ⟨.string (a ++ b), ?_, .str _⟩
  have : ¬ (((a.size + b.size : Nat) : Int) > IntKind.i64.max) := by
    have : IntKind.i64.max = 9223372036854775807 := by decide
    rw [this]; omega
  simp only [execOp, ho, rep_str hx', rep_str hy', Sem.run_bind, guard_quiet (show (∀ c, Value.string a ≠ .agg c) ∧ Value.string a ≠ .nilIface by simp), Result.andThen_ok, binOp, Op.stringOp, if_neg this, Sem.run_pure]

end
end Go.Mq
