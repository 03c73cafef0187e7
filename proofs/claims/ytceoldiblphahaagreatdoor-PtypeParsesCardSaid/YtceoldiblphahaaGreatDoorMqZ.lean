/- The abstract layer, part Z: one more thing behind a row. -/
import Derived.Test.YtceoldiblphahaaGreatDoorMqV
import Derived.Test.YtceoldiblphahaaGreatDoorMqG
set_option linter.unusedVariables false
set_option linter.unusedSimpArgs false
set_option linter.unusedSectionVars false
namespace Go.Mq
variable [GT]
section
variable {P : Program} {N : Nat} {s : Nat → PV} {σ : List Ent}

/-- Behind a row of one's own. -/
theorem OpOk.app {T : TT} (hT : TOk P T) {o : Oper} {xs xx : Operand} {t tx e ex : TypeId} {it ie itx : TI} (ho : o.op = .call ⟨.builtin .append, #[xs, xx], #[t, tx]⟩) {ρ : Operand → PV} (ht : T t = some it) (hd : it.desc = .slice e) (he : T e = some ie) {m : Nat} (hm : ie.size = m) (hm0 : m ≠ 0) (hb : ie.bytes ≤ 64) (htx : T tx = some itx) (hdx : itx.desc = .slice ex)
    {u : Value} {cs ys : List PV} {n : Nat} (hxs : ρ xs = .own u cs n) (pre : List Ent) {post : List Ent} (hσ : σ = pre ++ .spare u m :: post) (hcl : cs.length = n * m) (hx : ρ xx = .ful ys 1) (hl : ys.length = m) (hone : ys.all PV.one = true) (hn : n ≤ 1000000000) :
    OpOk P o ρ σ fun r σ' => ∃ v, r = .own v (cs ++ ys) (n + 1) ∧ σ' = pre ++ .spare v m :: post := by
  subst hm
  refine OpOk.appendOwn hT ho ht hd he hm0 htx hxs hσ hcl (k := 1) (by rw [hx]; rfl) (by omega) hone (by rw [hx]; exact ⟨ex, hdx⟩) ?_ (by omega)
  calc (n + 1) * ie.bytes ≤ (n + 1) * 64 := Nat.mul_le_mul_left _ hb
    _ ≤ 140737488355328 := by omega
/-- Behind none. -/
theorem OpOk.appN {T : TT} (hT : TOk P T) {o : Oper} {xs xx : Operand} {t tx e ex : TypeId} {it ie itx : TI} (ho : o.op = .call ⟨.builtin .append, #[xs, xx], #[t, tx]⟩) {ρ : Operand → PV} (ht : T t = some it) (hd : it.desc = .slice e) (he : T e = some ie) {m : Nat} (hm : ie.size = m) (hm0 : m ≠ 0) (hb : ie.bytes ≤ 64) (htx : T tx = some itx) (hdx : itx.desc = .slice ex)
    {ys : List PV} (hxs : ρ xs = .nils) (hx : ρ xx = .ful ys 1) (hl : ys.length = m) (hone : ys.all PV.one = true) :
    OpOk P o ρ σ fun r σ' => ∃ v, r = .own v ys 1 ∧ σ' = .spare v m :: σ := by
  subst hm
  refine OpOk.appendFul hT ho ht hd he hm0 htx (cs := []) (n := 0) (.inr ⟨hxs, rfl, rfl⟩) (by simp) (k := 1) (by rw [hx]; rfl) (by omega) hone (by rw [hx]; exact ⟨ex, hdx⟩) ?_ (by omega)
  omega
/-- A row of one thing of several cells. -/
theorem OpOk.bsM {T : TT} (hT : TOk P T) {cs : List PV} {o : Oper} {t e : TypeId} {x : Operand} (ho : o.op = .buildSlice t 1 #[(0, x)]) {ρ : Operand → PV} {i ie : TI} (ht : T t = some i) (hd : i.desc = .slice e) (he : T e = some ie) (h1 : ie.size = cs.length) (h0 : cs.length ≠ 0) (hs : cs.length ≤ 1000) (hz : ie.zero.length = cs.length) (hx : ρ x = .agg cs) : OpOk P o ρ σ (Ret (.ful cs 1) σ) := by
  refine OpOk.calc hT (r := .ful cs 1) ?_
  obtain ⟨desc, size, bytes, zero⟩ := i
  simp only at hd; subst hd
  rw [ho]
  have e1 : zerosOf ie.zero 1 = ie.zero := by simp [zerosOf]
  simp only [acalc, ht, he, h1, e1, hx, List.map_cons, List.map_nil, afill, PV.cells, Nat.zero_mul, Nat.zero_add, PV.solid, Nat.one_mul]
  rw [if_pos ⟨by omega, h0⟩, if_pos (by simp; omega)]
  simp [hz]
theorem OpOk.boxL {o : Oper} {t : TypeId} {x : Operand} (ho : o.op = .box t x) {ρ : Operand → PV} {v : PV} (hv : ρ x = v) (hx : v.solid = true) {cs : List PV} (hc : v.cells = cs) :
    OpOk P o ρ σ fun r σ' => ∃ b, r = .loc b 0 ∧ σ' = .cells b cs :: σ := by
  subst hc; subst hv
  exact OpOk.box (T := fun _ => none) ho hx
theorem wrapE {n : Int} (h0 : -9223372036854775808 ≤ n) (h1 : n ≤ 9223372036854775807) : PV.int .i64 (IntKind.i64.wrap n) = PV.int .i64 n := by rw [wrap_id h0 h1]
theorem wrapE32 {n : Int} (h0 : -2147483648 ≤ n) (h1 : n ≤ 2147483647) : PV.int .i32 (IntKind.i32.wrap n) = PV.int .i32 n := by
  have : IntKind.i32.wrap n = n := by
    have e1 : IntKind.i32.wrap n = (n + 2147483648) % 4294967296 - 2147483648 := by
      simp only [IntKind.wrap, IntKind.bits, IntKind.signed]; simp; try omega
    rw [e1, Int.emod_eq_of_lt (by omega) (by omega)]; omega
  rw [this]
theorem bat_range (s : ByteArray) (i : Int) : 0 ≤ bat s i ∧ bat s i ≤ 255 := by
  unfold bat
  have := (s.data.toList.getD i.toNat 0).toNat_lt
  omega
theorem wrapB (s : ByteArray) (i : Int) : PV.int .i64 (IntKind.i64.wrap (bat s i)) = PV.int .i64 (bat s i) := by
  have := bat_range s i
  exact wrapE (by omega) (by omega)
theorem ExOps.gBin {ops : Array Oper} {d : Option Nat} {bo : BinOp} {t t' : TypeId} {x y : Operand} {ty : TypeId} {pos : String} {after : Array Edge} {gd : Option (Nat × Bool)} {rest : List Oper} {Q : (Nat → PV) → List Ent → Prop} (h : ExOps P N ops (⟨d, .binOp bo t x y t', ty, pos, after, gd⟩ :: rest) s σ Q) : ExOps P N ops (⟨d, .binOp bo t x y t', ty, pos, after, gd⟩ :: rest) s σ Q := h
theorem ExOps.gConv {ops : Array Oper} {d : Option Nat} {t t' : TypeId} {x : Operand} {ty : TypeId} {pos : String} {after : Array Edge} {gd : Option (Nat × Bool)} {rest : List Oper} {Q : (Nat → PV) → List Ent → Prop} (h : ExOps P N ops (⟨d, .convert t t' x, ty, pos, after, gd⟩ :: rest) s σ Q) : ExOps P N ops (⟨d, .convert t t' x, ty, pos, after, gd⟩ :: rest) s σ Q := h
theorem DRd.gBin {ops : Array Oper} {d : Option Nat} {bo : BinOp} {t t' : TypeId} {x y : Operand} {ty : TypeId} {pos : String} {after : Array Edge} {gd : Option (Nat × Bool)} {rest : List Oper} {Q : (Nat → PV) → List Ent → Prop} (h : DRd P N ops σ Q (⟨d, .binOp bo t x y t', ty, pos, after, gd⟩ :: rest) s) : DRd P N ops σ Q (⟨d, .binOp bo t x y t', ty, pos, after, gd⟩ :: rest) s := h
theorem DRd.gConv {ops : Array Oper} {d : Option Nat} {t t' : TypeId} {x : Operand} {ty : TypeId} {pos : String} {after : Array Edge} {gd : Option (Nat × Bool)} {rest : List Oper} {Q : (Nat → PV) → List Ent → Prop} (h : DRd P N ops σ Q (⟨d, .convert t t' x, ty, pos, after, gd⟩ :: rest) s) : DRd P N ops σ Q (⟨d, .convert t t' x, ty, pos, after, gd⟩ :: rest) s := h
theorem rep_undef {W : Own} {w : World} : Rep W w undef (.tup []) := .tup rfl (fun j u x h => by simp at h)
/-- An operation whose guard did not run. -/
theorem ExOps.skipU {ops : Array Oper} {j d' d : Nat} {want : Bool} {op : Op} {ty : TypeId} {pos : String} {after : Array Edge} {rest : List Oper} {Q : (Nat → PV) → List Ent → Prop} (hj : (ops[j]?).bind (·.dst) = some d') (hb : s d' = .tup []) (hd : Nat.blt d N = true)
    (k : ExOps P N ops rest (upd s d (.tup [])) σ Q) : ExOps P N ops (⟨some d, op, ty, pos, after, some (j, want)⟩ :: rest) s σ Q := by
  intro K a w hN hdf hs hr QQ hq
  have hy : yielded ops a.tmps j = none := by
    have h1 := hr d'
    rw [hb] at h1
    obtain ⟨vs, h2, _⟩ := rep_tup h1
    unfold yielded
    rw [hj]
    simp only [Option.bind_some]
    cases h3 : a.tmps[d']? with
    | none => rfl
    | some v =>
      have : v = .tuple vs := by
        rw [← h2]; simp [Array.getD_eq_getD_getElem?, h3]
      rw [this]
  unfold wpList
  rw [if_neg (by simp [Region.wanted, hy])]
  exact k K _ w (by rw [put_size, hN]) (by rw [put_defers, hdf]) hs (hr.put (fun t ht => by cases ht; rw [hN]; simpa [Nat.blt_eq] using hd) rep_undef) QQ hq
theorem ExOps.skipGU {ops : Array Oper} {j d' d : Nat} {want : Bool} {op : Op} {ty : TypeId} {pos : String} {after : Array Edge} {rest : List Oper} {Q : (Nat → PV) → List Ent → Prop} (hj : (ops[j]?).bind (·.dst) = some d') (hd' : Nat.blt d' N = true) (hb : s d' = .bool (!want)) (hd : Nat.blt d N = true)
    (k : ExOps P N ops rest (upd s d (.tup [])) σ Q) : ExOps P N ops (⟨some d, op, ty, pos, after, some (j, want)⟩ :: rest) s σ Q := by
  intro K a w hN hdf hs hr QQ hq
  have hy : yielded ops a.tmps j = some (!want) := by
    have h1 := hr d'
    rw [hb] at h1
    have h2 := rep_bool h1
    have h3 : a.tmps[d']? = some (.bool (!want)) := by
      have hlt : d' < a.tmps.size := by rw [hN]; simpa [Nat.blt_eq] using hd'
      simp [hlt] at h2 ⊢; exact h2
    simp [yielded, hj, h3]
  unfold wpList
  rw [if_neg (by simp [Region.wanted, hy])]
  exact k K _ w (by rw [put_size, hN]) (by rw [put_defers, hdf]) hs (hr.put (fun t ht => by cases ht; rw [hN]; simpa [Nat.blt_eq] using hd) rep_undef) QQ hq
/-- Numbers, as a slice's cells. -/
def ints (k : IntKind) (l : List Int) : List PV := l.map (.int k)
theorem ints_snoc (k : IntKind) (l : List Int) (x : Int) : ints k l ++ [.int k x] = ints k (l ++ [x]) := by simp [ints]
theorem ints_length (k : IntKind) (l : List Int) : (ints k l).length = l.length := by simp [ints]
theorem strs_snoc (l : List ByteArray) (x : ByteArray) : strs l ++ [.str x] = strs (l ++ [x]) := by simp [strs]
theorem strs_length (l : List ByteArray) : (strs l).length = l.length := by simp [strs]
theorem ints_at {kk : IntKind} {l : List Int} {i : Int} (h : i.toNat < l.length) : (ints kk l).drop (i.toNat * 1) = .int kk (l[i.toNat]!) :: ints kk (l.drop (i.toNat + 1)) := by
  rw [Nat.mul_one, ints, ← List.map_drop, List.drop_eq_getElem_cons h, getElem!_pos l i.toNat h]; rfl
theorem OpOk.indexInts {T : TT} (hT : TOk P T) {o : Oper} {t e : TypeId} {x y : Operand} (ho : o.op = .indexAddr t x y) {ρ : Operand → PV} {it ie : TI} (ht : T t = some it) (hd : it.desc = .slice e) (he : T e = some ie) (hs : ie.size = 1) {kk : IntKind} {ts : List Int} {n : Nat} (hx : elemsOf (ρ x) = some (ints kk ts, n))
    {k : IntKind} {i : Int} (hy : ρ y = .int k i) (h0 : 0 ≤ i) (h1 : i < n) (hn : n ≤ ts.length) : OpOk P o ρ σ (Ret (.ptr (.int kk (ts[i.toNat]!) :: ints kk (ts.drop (i.toNat + 1)))) σ) :=
  OpOk.indexAddrE hT ho ht hd he hx hy h0 h1 (by rw [hs]; exact ints_at (by omega))
theorem OpOk.sliceS2 {T : TT} (hT : TOk P T) {o : Oper} {t : TypeId} {x y z : Operand} (ho : o.op = .slice t x (some y) (some z) none) {ρ : Operand → PV} {it : TI} (ht : T t = some it) (hd : it.desc = .str) {s : ByteArray} (hx : ρ x = .str s) {k k' : IntKind} {l h : Nat} (hl : ρ y = .int k l) (hh : ρ z = .int k' h) (h1 : l ≤ h) (h2 : h ≤ s.size) :
    OpOk P o ρ σ (Ret (.str (s.extract l h)) σ) := OpOk.sliceStr hT ho ht hd hx l h ⟨k, hl⟩ ⟨k', hh⟩ (by omega) (by omega) (by omega)
theorem OpOk.sliceSL {T : TT} (hT : TOk P T) {o : Oper} {t : TypeId} {x y : Operand} (ho : o.op = .slice t x (some y) none none) {ρ : Operand → PV} {it : TI} (ht : T t = some it) (hd : it.desc = .str) {s : ByteArray} (hx : ρ x = .str s) {k : IntKind} {l : Nat} (hl : ρ y = .int k l) (h1 : l ≤ s.size) :
    OpOk P o ρ σ (Ret (.str (s.extract l s.size)) σ) := OpOk.sliceStr hT ho ht hd hx l s.size ⟨k, hl⟩ rfl (by omega) (by omega) (by omega)
theorem OpOk.sliceSH {T : TT} (hT : TOk P T) {o : Oper} {t : TypeId} {x z : Operand} (ho : o.op = .slice t x none (some z) none) {ρ : Operand → PV} {it : TI} (ht : T t = some it) (hd : it.desc = .str) {s : ByteArray} (hx : ρ x = .str s) {k' : IntKind} {h : Nat} (hh : ρ z = .int k' h) (h2 : h ≤ s.size) :
    OpOk P o ρ σ (Ret (.str (s.extract 0 h)) σ) := OpOk.sliceStr hT ho ht hd hx 0 h rfl ⟨k', hh⟩ (by omega) (by omega) (by omega)
/-- A tree out of a row, as a variable. -/
theorem OpOk.loadPv {T : TT} (hT : TOk P T) {o : Oper} {t : TypeId} {x : Operand} (ho : o.op = .load t x) {ρ : Operand → PV} {i : TI} (ht : T t = some i) (hd : i.desc = .ptr) {u : Tree} {r : List PV} (hx : ρ x = .ptr (u.pv :: r)) :
    OpOk P o ρ σ (Ret (.ptr [.int .i64 u.kind, .int .i64 u.num, .str u.nm, .str u.mk', .slc (pvs u.kids) u.kids.length]) σ) := by
  rw [← pv_eq]
  refine OpOk.calc hT (r := u.pv) ?_
  rw [ho]
  simp [acalc, ht, hx, aload, hd, TD.isStruct]
theorem Wk.tup {xs ys : List PV} (h : WkL xs ys) : Wk (.tup xs) (.tup ys) := fun W w v hr => by
  obtain ⟨vs, rfl, h1, h2⟩ := rep_tup hr
  refine .tup (by have := h.len; simp at h1; omega) (fun j u y hu hy => ?_)
  have hj : j < xs.length := by rw [h.len]; exact (List.getElem?_eq_some_iff.1 hy).1
  exact h.get j _ y (List.getElem?_eq_getElem hj) hy W w u (h2 j u _ (by simpa using hu) (List.getElem?_eq_getElem hj))
theorem eqT {p : Prop} {i : Decidable p} (h : p) : PV.bool (@decide p i) = .bool true := by rw [decide_eq_true h]
theorem eqF {p : Prop} {i : Decidable p} (h : ¬ p) : PV.bool (@decide p i) = .bool false := by rw [decide_eq_false h]
theorem beqT (b : Bool) : PV.bool (b == b) = .bool true := by cases b <;> rfl
theorem QRet.meltAll {T : TT} {rs : List ResultVar} {X : PV} {vs : List PV} (h : ResVL T σ s rs vs) (hm : Melt σ [] (packP vs) X) : QRet T rs (Ret X []) .ret s σ := ⟨vs, σ, [], _, h, (List.append_nil _).symm, hm, rfl, rfl⟩
theorem toks_snoc (l : List Tok) (t : Tok) : toks l ++ t.cells = toks (l ++ [t]) := by
  induction l with
  | nil => simp [toks]
  | cons u l ih => simp only [List.cons_append, toks, List.append_assoc, ih]
theorem ExOps.gLoad {ops : Array Oper} {d : Option Nat} {t : TypeId} {x : Operand} {ty : TypeId} {pos : String} {after : Array Edge} {gd : Option (Nat × Bool)} {rest : List Oper} {Q : (Nat → PV) → List Ent → Prop} (h : ExOps P N ops (⟨d, .load t x, ty, pos, after, gd⟩ :: rest) s σ Q) : ExOps P N ops (⟨d, .load t x, ty, pos, after, gd⟩ :: rest) s σ Q := h
theorem one_all {v : PV} (h : v.one = true) : [v].all PV.one = true := by simp [h]
theorem pvs_snoc (ts : List Tree) (t : Tree) : pvs ts ++ [t.pv] = pvs (ts ++ [t]) := by rw [pvs_append]; simp [pvs]
/-- A call whose arguments are weakened by the plain steps. -/
theorem OpOk.cp {o : Oper} {c : Call} (ho : o.op = .call c) {ρ : Operand → PV} {fx : Operand} (hc : c.callee = .value fx) {f : FuncId} {first captured : List PV} (hf : ρ fx = .func f first captured) {X : PV} {args' : List PV}
    (hw : WkL (first ++ c.args.toList.map ρ ++ captured) args' := by (repeat' (first | exact WkL.nil | refine WkL.cons ?_ ?_ | exact Wk.refl _ | exact Wk.own _ _ _ | exact Wk.ful _ _ | exact Wk.nils)); first | done | fail) (h : Callable P f args' [] (Ret X [])) : OpOk P o ρ σ (Ret X σ) := OpOk.callP ho hc hf hw h
end
end Go.Mq
