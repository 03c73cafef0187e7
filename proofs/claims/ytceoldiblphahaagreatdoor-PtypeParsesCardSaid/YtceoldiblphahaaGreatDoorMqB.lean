/- The abstract layer, part B: what is known of types; operations that hang on no owned thing, as a function on pure values, and that the machine does just that. -/
import Derived.Test.YtceoldiblphahaaGreatDoorMqA
import Derived.Laws.Cells
import Derived.Laws.CopyRow
import Derived.Laws.Tables
set_option linter.unusedVariables false
set_option linter.unusedSimpArgs false
set_option linter.unusedSectionVars false
namespace Go.Mq
variable [GT]

inductive TD where
  | bool | int (k : IntKind) | str | ptr | slice (e : TypeId) | map (k e : TypeId) | struct (fs : List (Nat × Nat × TypeId)) | func | iface
  deriving Inhabited

def TD.isStruct : TD → Bool
  | .struct _ => true
  | _ => false

structure TI where
  desc : TD
  size : Nat
  bytes : Nat
  zero : List PV
  deriving Inhabited

abbrev TT := TypeId → Option TI

def ofConst : Value → PV
  | .bool b => .bool b
  | .int k n => .int k n
  | .string s => .str s
  | .pointer none => .nilp
  | .slice none 0 0 => .nils
  | .map none => .nilm
  | .nilFunc => .nilf
  | .nilIface => .nili
  | _ => .junk
theorem rep_ofConst (W : Own) (w : World) (v : Value) : Rep W w v (ofConst v) := by
  unfold ofConst
  split
  · exact .bool _
  · exact .int _ _
  · exact .str _
  · exact .nilp
  · exact .nils
  · exact .nilm
  · exact .nilf
  · exact .nili
  · exact .junk _

def DescOk (P : Program) (t : TypeId) : TD → Prop
  | .bool => P.underlying t = some .bool
  | .int k => P.underlying t = some (.int k)
  | .str => P.underlying t = some .string
  | .ptr => ∃ e, P.underlying t = some (.pointer e)
  | .slice e => P.underlying t = some (.slice e)
  | .map k e => P.underlying t = some (.map k e)
  | .struct fs => ∃ F : Array Field, P.underlying t = some (.struct F) ∧ F.toList.map (fun f => (f.offset, (P.info? f.type).map (·.size), f.type)) = fs.map (fun x => (x.1, some x.2.1, x.2.2)) ∧ ∀ x ∈ fs, x.2.1 ≠ 0
  | .func => ∃ a b c, P.underlying t = some (.func a b c)
  | .iface => ∃ ms, P.underlying t = some (.interface ms)

def TIOk (P : Program) (t : TypeId) (i : TI) : Prop :=
  (∃ info, P.info? t = some info ∧ info.size = i.size ∧ info.bytes = i.bytes ∧ ∃ z, info.zero = some z ∧ z.cells.toList.map ofConst = i.zero ∧ ((∀ fs, i.desc ≠ .struct fs) → z.cells.toList = [z]) ∧ ((∃ fs, i.desc = .struct fs) → z = .agg z.cells)) ∧ DescOk P t i.desc ∧ i.zero.length = i.size
def TOk (P : Program) (T : TT) : Prop := ∀ t i, T t = some i → TIOk P t i
def tcons (n : Nat) (x : TI) (r : TT) : TT := fun t => bif Nat.beq t n then some x else r t
theorem TOk.nil {P : Program} : TOk P fun _ => none := fun t i h => by cases h
theorem TOk.cons {P : Program} {n : Nat} {x : TI} {r : TT} (h : TIOk P n x) (hr : TOk P r) : TOk P (tcons n x r) := fun t i ht => by
  unfold tcons at ht
  cases hq : Nat.beq t n with
  | true => rw [hq] at ht; cases ht; rw [Nat.eq_of_beq_eq_true hq]; exact h
  | false => rw [hq] at ht; exact hr t i ht

/-- An operand, as a pure value. -/
def pev (s : Nat → PV) : Operand → PV
  | .tmp t => s t
  | .const v => ofConst v
  | .func f => .func f [] []
  | .global _ => .junk

def PV.cells : PV → List PV
  | .agg cs => cs
  | x => [x]
def PV.solid : PV → Bool
  | .junk => false
  | _ => true

/-- Parts laid into cells. -/
def afill (place : Nat → Option (Nat × Nat)) (cells : List PV) : List (Nat × PV) → Option (List PV)
  | [] => some cells
  | (i, v) :: rest =>
    match place i with
    | none => none
    | some (off, size) =>
      if v.cells.length = size ∧ off + size ≤ cells.length ∧ v.solid = true then afill place (cells.take off ++ v.cells ++ cells.drop (off + size)) rest else none

def zerosOf (z : List PV) : Nat → List PV
  | 0 => []
  | n + 1 => z ++ zerosOf z n

def acmp (op : BinOp) (x y : Int) : Option PV :=
  match op with
  | .eql => some (.bool (decide (x = y)))
  | .neq => some (.bool (decide (x ≠ y)))
  | .lss => some (.bool (decide (x < y)))
  | .leq => some (.bool (decide (x ≤ y)))
  | .gtr => some (.bool (decide (x > y)))
  | .geq => some (.bool (decide (x ≥ y)))
  | _ => none

def strEq (a b : ByteArray) : Bool := decide (a = b)

def abin (op : BinOp) (x y : PV) : Option PV :=
  match x, y with
  | .int k a, .int k' b =>
    if k = k' then
      match op with
      | .add => some (.int k (k.wrap (a + b)))
      | .sub => some (.int k (k.wrap (a - b)))
      | .mul => some (.int k (k.wrap (a * b)))
      | _ => acmp op a b
    else none
  | .str a, .str b =>
    match op with
    | .eql => some (.bool (decide (a = b)))
    | .neq => some (.bool (decide (a ≠ b)))
    | _ => none
  | .bool a, .bool b =>
    match op with
    | .eql => some (.bool (a == b))
    | .neq => some (.bool (!(a == b)))
    | _ => none
  | .nilp, .nilp => match op with | .eql => some (.bool true) | .neq => some (.bool false) | _ => none
  | .ptr _, .nilp => match op with | .eql => some (.bool false) | .neq => some (.bool true) | _ => none
  | .loc _ _, .nilp => match op with | .eql => some (.bool false) | .neq => some (.bool true) | _ => none
  | _, _ => none

def alen : PV → Option PV
  | .str s => some (.int .i64 s.size)
  | .slc _ n => some (.int .i64 n)
  | .own _ _ n => some (.int .i64 n)
  | .ful _ n => some (.int .i64 n)
  | .arr _ _ n => some (.int .i64 n)
  | .nils => some (.int .i64 0)
  | _ => none

def aload (i : TI) (cs : List PV) : Option PV :=
  if i.desc.isStruct then (if i.size ≤ cs.length then some (.agg (cs.take i.size)) else none) else cs[0]?

/-- What an operation gives that hangs on no owned thing. -/
def acalc (T : TT) (op : Op) (ρ : Operand → PV) : Option PV :=
  match op with
  | .move x | .assign x => some (ρ x)
  | .pick c a b => match ρ c with
    | .bool x => some (bif x then ρ a else ρ b)
    | _ => none
  | .nilCheck x => match ρ x with
    | .ptr cs => some (.ptr cs)
    | .loc b o => some (.loc b o)
    | _ => none
  | .binOp op t x y _ => match ρ x, ρ y with
    | .int k a, .int k' b => abin op (.int k a) (.int k' b)
    | .str a, .str b => abin op (.str a) (.str b)
    | .bool a, .bool b => match T t with
      | some ⟨.bool, _, _, _⟩ => abin op (.bool a) (.bool b)
      | _ => none
    | .nilp, .nilp => match T t with
      | some ⟨.ptr, _, _, _⟩ => abin op .nilp .nilp
      | _ => none
    | .ptr cs, .nilp => match T t with
      | some ⟨.ptr, _, _, _⟩ => abin op (.ptr cs) .nilp
      | _ => none
    | .loc b o, .nilp => match T t with
      | some ⟨.ptr, _, _, _⟩ => abin op (.loc b o) .nilp
      | _ => none
    | _, _ => none
  | .unOp .not _ x => match ρ x with
    | .bool b => some (.bool (!b))
    | _ => none
  | .unOp .neg _ x => match ρ x with
    | .int k n => some (.int k (k.wrap (0 - n)))
    | _ => none
  | .convert src dst x => match T src, T dst, ρ x with
    | some _, some ⟨.int k, _, _, _⟩, .int _ n => some (.int k (k.wrap n))
    | some _, some ⟨.str, _, _, _⟩, .str s => some (.str s)
    | _, _, _ => none
  | .makeFunc (.func f) first captured => some (.func f (first.toList.map ρ) (captured.toList.map ρ))
  | .extract t ix => match ρ t with
    | .tup vs => vs[ix]?
    | _ => none
  | .field t x f => match T t, ρ x with
    | some ⟨.struct fs, _, _, _⟩, .agg cs => match fs[f]? with
      | some (off, sz, ft) => match T ft with
        | some i => if i.desc.isStruct then (if off + sz ≤ cs.length then some (.agg ((cs.drop off).take sz)) else none) else cs[off]?
        | none => none
      | none => none
    | _, _ => none
  | .fieldAddr t x f => match T t with
    | some ⟨.struct fs, _, _, _⟩ => match fs[f]? with
      | some (off, _, _) => match ρ x with
        | .ptr cs => some (.ptr (cs.drop off))
        | .loc b o => some (.loc b (o + off))
        | _ => none
      | none => none
    | _ => none
  | .load t x => match T t, ρ x with
    | some i, .ptr cs => aload i cs
    | _, _ => none
  | .build t parts => match T t with
    | some ⟨.struct fs, _, _, z⟩ => (afill (fun i => (fs[i]?).map fun x => (x.1, x.2.1)) z (parts.toList.map fun p => (p.1, ρ p.2))).map PV.agg
    | _ => none
  | .buildSlice t n parts => match T t with
    | some ⟨.slice e, _, _, _⟩ => match T e with
      | some i => if n * i.size ≤ 16777216 ∧ i.size ≠ 0 then (afill (fun j => some (j * i.size, i.size)) (zerosOf i.zero n) (parts.toList.map fun p => (p.1, ρ p.2))).map (PV.ful · n) else none
      | none => none
    | _ => none
  | _ => none

/-- No owned thing is touched, old blocks stay. -/
def Quiet (w w' : World) : Prop := Trans (fun _ _ => False) w w' (fun _ _ => False)
theorem Quiet.refl (w : World) : Quiet w w := Trans.refl _ w
theorem Quiet.rep {W : Own} {w w' : World} (q : Quiet w w') {v : Value} {x : PV} (h : Rep W w v x) : Rep W w' v x :=
  Rep.step (fun b j c hn hc => ⟨q.cell b j c (fun h => h) hc, hn⟩) h
theorem Quiet.trans {w w1 w2 : World} (h : Quiet w w1) (k : Quiet w1 w2) : Quiet w w2 := Trans.trans h k
theorem Quiet.to {O : Own} {w w' : World} (q : Quiet w w') : Trans O w w' O := {
  os := q.os
  tape := q.tape
  output := q.output
  size := q.size
  cell := fun b j c _ hc => q.cell b j c (fun h => h) hc
  block := fun b hb _ => q.block b hb (fun _ h => h)
  own := fun _ _ h => .inl h }
theorem Quiet.sep {σ : List Ent} {K : Own} {w w' : World} (q : Quiet w w') (h : Sep σ K w) : Sep σ K w' := {
  holds := fun e he => Ent.holds_step (fun b j c hn hc => ⟨q.cell b j c (fun h => h) hc, hn⟩) (fun b j ho => q.block b (Ent.holds_lt (h.holds e he) ho) (fun _ h => h)) (h.holds e he)
    (fun a n cap m heq hlt => q.block _ (Ent.holds_lt (h.holds e he) (show e.owns a.block (a.off + n * m) by subst heq; exact ⟨rfl, Nat.le_refl _, hlt⟩)) (fun _ h => h))
  apart := h.apart
  frame := h.frame
  bound := fun b j hK => Nat.lt_of_lt_of_le (h.bound b j hK) q.size
  glob := fun g j p hg => ⟨(h.glob g j p hg).1.imp fun v ⟨h1, h2⟩ => ⟨q.cell g j v (fun h => h) h1, h2⟩, (h.glob g j p hg).2⟩ }
theorem Quiet.drew (w : World) : Quiet w { w with drawn := w.drawn + 1 } := ⟨rfl, rfl, rfl, Nat.le_refl _, fun _ _ _ _ h => h, fun _ _ _ => rfl, fun _ _ h => .inl h⟩
theorem Quiet.alloc (w : World) (o : Obj) : Quiet w { w with heap := w.heap.push o } := {
  os := rfl
  tape := rfl
  output := rfl
  size := by simp
  cell := fun b j c _ hc => by
    have hlt := lt_of_cell hc
    unfold World.cell? at hc ⊢
    rw [Array.getElem?_push, if_neg (by simp; omega)]; exact hc
  block := fun b hb _ => by rw [Array.getElem?_push, if_neg (by omega)]
  own := fun _ _ h => .inl h }

theorem run_underlying' {P : Program} {t : TypeId} {d : TypeDesc} (h : P.underlying t = some d) (w : World) : (underlying t).run P w = .ok d w := by
  simp [underlying, h]

section
variable {P : Program} {T : TT} (hT : TOk P T)
include hT
theorem tt_info {t : TypeId} {i : TI} (h : T t = some i) (w : World) : ∃ info, (typeInfo t).run P w = .ok info w ∧ info.size = i.size ∧ info.bytes = i.bytes ∧ ∃ z, info.zero = some z ∧ z.cells.toList.map ofConst = i.zero ∧ ((∀ fs, i.desc ≠ .struct fs) → z.cells.toList = [z]) ∧ ((∃ fs, i.desc = .struct fs) → z = .agg z.cells) := by
  obtain ⟨⟨info, h1, h2⟩, _⟩ := hT t i h
  exact ⟨info, by simp [typeInfo, h1], h2⟩
theorem tt_size {t : TypeId} {i : TI} (h : T t = some i) (w : World) : (sizeOf t).run P w = .ok i.size w := by
  obtain ⟨info, h1, h2, _⟩ := tt_info hT h w
  simp [sizeOf, h1, h2]
theorem tt_zero {t : TypeId} {i : TI} (h : T t = some i) : ∃ z, (∀ w, (zeroValue t).run P w = .ok z w) ∧ z.cells.toList.map ofConst = i.zero ∧ ((∀ fs, i.desc ≠ .struct fs) → z.cells.toList = [z]) ∧ ((∃ fs, i.desc = .struct fs) → z = .agg z.cells) := by
  obtain ⟨⟨info, h1, _, _, z, hz, h5⟩, _⟩ := hT t i h
  exact ⟨z, fun w => by simp [zeroValue, typeInfo, h1, hz], h5⟩
theorem tt_und {t : TypeId} {i : TI} (h : T t = some i) : DescOk P t i.desc := (hT t i h).2.1
theorem tt_agg {t : TypeId} {i : TI} (h : T t = some i) (w : World) : (isAgg t).run P w = .ok i.desc.isStruct w := by
  have := tt_und hT h
  cases hd : i.desc <;> rw [hd] at this <;> simp only [DescOk] at this <;> simp only [TD.isStruct]
  case ptr => obtain ⟨e, hu⟩ := this; simp [isAgg, run_underlying' hu]
  case struct fs => obtain ⟨F, hu, _⟩ := this; simp [isAgg, run_underlying' hu]
  case func => obtain ⟨a, b, c, hu⟩ := this; simp [isAgg, run_underlying' hu]
  case iface => obtain ⟨a, hu⟩ := this; simp [isAgg, run_underlying' hu]
  all_goals simp [isAgg, run_underlying' this]
end

theorem add_plain (b o j : Nat) : (⟨b, o, none⟩ : Addr).add j = ⟨b, o + j, none⟩ := by unfold Addr.add; split <;> simp_all

theorem load_cells {P : Program} {w : World} {b o n : Nat} {c : Nat → Value} (h : ∀ j, j < n → w.cell? ⟨b, o + j, none⟩ = some (c j)) : (loadCells ⟨b, o, none⟩ n).run P w = .ok ((List.range n).map c).toArray w :=
  run_loadCells w _ n c (fun j hj => by rw [add_plain]; exact h j hj)

theorem loadVar_ptr {P : Program} {T : TT} (hT : TOk P T) {t : TypeId} {i : TI} (ht : T t = some i) {W : Own} {w : World} {b o : Nat} {cs : List PV} {c : Nat → Value} (hc : ∀ j, j < cs.length → w.cell? ⟨b, o + j, none⟩ = some (c j))
    (hr : ∀ (j : Nat) (x : PV), cs[j]? = some x → Rep W w (c j) x) {r : PV} (h : aload i cs = some r) : ∃ v, (loadVar t ⟨b, o, none⟩).run P w = .ok v w ∧ Rep W w v r := by
  unfold aload at h
  have ha := tt_agg hT ht w
  have hs := tt_size hT ht w
  split at h
  · rename_i hd
    rw [hd] at ha
    split at h
    · rename_i hle
      cases h
      refine ⟨.agg ((List.range i.size).map c).toArray, ?_, .agg (by simp; omega) (fun j u x hu hx => ?_)⟩
      · simp [loadVar, ha, hs, load_cells (P := P) (n := i.size) (fun j hj => hc j (by omega))]
      · have hj : j < i.size := by
          have := (Array.getElem?_eq_some_iff.1 hu).1; simpa using this
        rw [List.getElem?_take_of_lt hj] at hx
        have : u = c j := by
          simp [hj] at hu; exact hu.symm
        rw [this]; exact hr j x hx
    · cases h
  · rename_i hd
    rw [show i.desc.isStruct = false by simpa using hd] at ha
    have h0 : 0 < cs.length := (List.getElem?_eq_some_iff.1 h).1
    refine ⟨c 0, ?_, hr 0 r h⟩
    have := hc 0 h0
    simp only [Nat.add_zero] at this
    simp [loadVar, ha, this]

theorem zerosOf_len (z : List PV) : ∀ n, (zerosOf z n).length = n * z.length
  | 0 => by simp [zerosOf]
  | n + 1 => by simp [zerosOf, zerosOf_len z n, Nat.succ_mul]; omega
theorem zerosOf_get (z : List PV) : ∀ n j, j < n * z.length → (zerosOf z n)[j]? = z[j % z.length]?
  | 0, j, h => by omega
  | n + 1, j, h => by
    simp only [zerosOf]
    rw [List.getElem?_append]
    split
    · rename_i hlt; rw [Nat.mod_eq_of_lt hlt]
    · rename_i hge
      have hge : z.length ≤ j := by omega
      rw [zerosOf_get z n _ (by rw [Nat.succ_mul] at h; omega), ← Nat.mod_eq_sub_mod hge]

end Go.Mq
