/- Plain: trees and tokens, what stands for them. No program in it. -/
import Derived.Test.YtceoldiblphahaaGreatDoorMqK
set_option linter.unusedVariables false
set_option linter.unusedSectionVars false
set_option linter.unusedSimpArgs false
namespace Go.Mq

/-- A whole tree. -/
inductive Tree where
  | node (kind n : Int) (nm mk : ByteArray) (kids : List Tree)
  deriving Inhabited
namespace Tree
def kind : Tree → Int | .node k _ _ _ _ => k
def num : Tree → Int | .node _ n _ _ _ => n
def nm : Tree → ByteArray | .node _ _ a _ _ => a
def mk' : Tree → ByteArray | .node _ _ _ b _ => b
def kids : Tree → List Tree | .node _ _ _ _ ks => ks
end Tree

mutual
def Tree.pv : Tree → PV
  | .node k n a b ks => .ptr [.int .i64 k, .int .i64 n, .str a, .str b, .slc (pvs ks) ks.length]
def pvs : List Tree → List PV
  | [] => []
  | t :: ts => t.pv :: pvs ts
end
theorem pvs_map (ts : List Tree) : pvs ts = ts.map Tree.pv := by
  induction ts with
  | nil => simp [pvs]
  | cons t ts ih => simp [pvs, ih]
theorem pvs_length (ts : List Tree) : (pvs ts).length = ts.length := by rw [pvs_map]; simp
theorem pvs_drop (ts : List Tree) (n : Nat) : (pvs ts).drop n = pvs (ts.drop n) := by simp [pvs_map]
theorem pvs_append (a b : List Tree) : pvs (a ++ b) = pvs a ++ pvs b := by simp [pvs_map]
theorem pv_eq (t : Tree) : t.pv = .ptr [.int .i64 t.kind, .int .i64 t.num, .str t.nm, .str t.mk', .slc (pvs t.kids) t.kids.length] := by
  cases t; rw [Tree.pv]; rfl
/-- A tree or nil. -/
def opv : Option Tree → PV
  | none => .nilp
  | some t => t.pv

mutual
def Tree.size : Tree → Nat
  | .node _ _ _ _ ks => 1 + sizes ks
def sizes : List Tree → Nat
  | [] => 0
  | t :: ts => t.size + sizes ts
end
mutual
def Tree.deep : Tree → Nat
  | .node _ _ _ _ ks => 1 + deeps ks
def deeps : List Tree → Nat
  | [] => 0
  | t :: ts => max t.deep (deeps ts)
end
theorem size_eq (t : Tree) : t.size = 1 + sizes t.kids := by cases t; rfl
theorem deep_eq (t : Tree) : t.deep = 1 + deeps t.kids := by cases t; rfl
theorem sizes_ge {t : Tree} {ts : List Tree} (h : t ∈ ts) : t.size ≤ sizes ts := by
  induction ts with
  | nil => cases h
  | cons u us ih =>
    simp only [sizes]
    rcases List.mem_cons.1 h with rfl | h
    · omega
    · have := ih h; omega
theorem sizes_append (a b : List Tree) : sizes (a ++ b) = sizes a + sizes b := by
  induction a with
  | nil => simp [sizes]
  | cons t ts ih => simp [sizes, ih]; omega
theorem kids_lt {t u : Tree} (h : u ∈ t.kids) : u.size < t.size := by
  rw [size_eq t]; have := sizes_ge h; omega
theorem getB_mem {α : Type} [Inhabited α] {ts : List α} {k : Nat} (h : k < ts.length) : ts[k]! ∈ ts := by rw [getElem!_pos ts k h]; exact List.getElem_mem h
theorem get!_mem {ts : List Tree} {k : Nat} (h : k < ts.length) : ts[k]! ∈ ts := by rw [getElem!_pos ts k h]; exact List.getElem_mem h
theorem sizes_take_succ (ts : List Tree) (k : Nat) (h : k < ts.length) : sizes (ts.take (k + 1)) = sizes (ts.take k) + ts[k]!.size := by
  rw [getElem!_pos ts k h]
  rw [List.take_succ_eq_append_getElem h, sizes_append]; simp [sizes]
theorem sizes_take_le (ts : List Tree) (k : Nat) : sizes (ts.take k) ≤ sizes ts := by
  have := sizes_append (ts.take k) (ts.drop k)
  rw [List.take_append_drop] at this; omega
theorem deeps_take_succ (ts : List Tree) (k : Nat) (h : k < ts.length) : deeps (ts.take (k + 1)) = max (deeps (ts.take k)) ts[k]!.deep := by
  rw [getElem!_pos ts k h]
  rw [List.take_succ_eq_append_getElem h]
  have : ∀ a b : List Tree, deeps (a ++ b) = max (deeps a) (deeps b) := by
    intro a b; induction a with
    | nil => simp [deeps]
    | cons t ts ih => simp only [List.cons_append, deeps, ih]; omega
  rw [this]; simp [deeps]
mutual
theorem deep_le_size : (t : Tree) → t.deep ≤ t.size
  | .node _ _ _ _ ks => by simp only [Tree.deep, Tree.size]; have := deeps_le_sizes ks; omega
theorem deeps_le_sizes : (ts : List Tree) → deeps ts ≤ sizes ts
  | [] => by simp [deeps, sizes]
  | t :: ts => by simp only [deeps, sizes]; have := deep_le_size t; have := deeps_le_sizes ts; omega
end
theorem len_le_sizes (ts : List Tree) : ts.length ≤ sizes ts := by
  induction ts with
  | nil => simp [sizes]
  | cons t ts ih => simp only [sizes, List.length_cons]; have := size_eq t; omega

/-- A token. -/
structure Tok where
  kind : Int
  text : ByteArray
  n : Int
  at_ : Int
  deriving Inhabited
def Tok.cells (t : Tok) : List PV := [.int .i64 t.kind, .str t.text, .int .i64 t.n, .int .i64 t.at_]
def toks : List Tok → List PV
  | [] => []
  | t :: ts => t.cells ++ toks ts
theorem toks_length (l : List Tok) : (toks l).length = l.length * 4 := by
  induction l with
  | nil => rfl
  | cons t l ih => simp [toks, Tok.cells, ih]; omega
theorem toks_drop (l : List Tok) (i : Nat) : (toks l).drop (i * 4) = toks (l.drop i) := by
  induction l generalizing i with
  | nil => simp [toks]
  | cons t l ih =>
    cases i with
    | zero => simp
    | succ i =>
      rw [show (i + 1) * 4 = i * 4 + 4 by omega]
      simp only [toks, Tok.cells, List.cons_append, List.nil_append, List.drop_succ_cons, ih]
theorem toks_at (l : List Tok) (i : Nat) (h : i < l.length) : (toks l).drop (i * 4) = l[i].cells ++ toks (l.drop (i + 1)) := by
  rw [toks_drop, List.drop_eq_getElem_cons h]; rfl

/-- A list of texts, as a slice's cells. -/
def strs (l : List ByteArray) : List PV := l.map .str
theorem strs_at {l : List ByteArray} {i : Int} (h : i.toNat < l.length) : (strs l).drop (i.toNat * 1) = .str (l[i.toNat]!) :: strs (l.drop (i.toNat + 1)) := by
  rw [Nat.mul_one, strs, ← List.map_drop, List.drop_eq_getElem_cons h, getElem!_pos l i.toNat h]; rfl

variable [GT]
theorem OpOk.indexAddrE {P : Program} {σ : List Ent} {T : TT} (hT : TOk P T) {o : Oper} {t e : TypeId} {x y : Operand} (ho : o.op = .indexAddr t x y) {ρ : Operand → PV} {it ie : TI} (ht : T t = some it) (hd : it.desc = .slice e) (he : T e = some ie) {cs : List PV} {n : Nat} (hx : elemsOf (ρ x) = some (cs, n))
    {k : IntKind} {i : Int} (hy : ρ y = .int k i) (h0 : 0 ≤ i) (h1 : i < n) {c : PV} {r : List PV} (hr : cs.drop (i.toNat * ie.size) = c :: r) : OpOk P o ρ σ (Ret (.ptr (c :: r)) σ) := by
  have hlt : i.toNat * ie.size < cs.length := by
    have := congrArg List.length hr
    simp at this; omega
  have := OpOk.indexAddr (σ := σ) hT ho ht hd he hx hy h0 h1 hlt
  rw [hr] at this
  exact this
theorem pvs_at {ts : List Tree} {i : Int} (h : i.toNat < ts.length) : (pvs ts).drop (i.toNat * 1) = (ts[i.toNat]!).pv :: pvs (ts.drop (i.toNat + 1)) := by
  rw [Nat.mul_one, pvs_drop, List.drop_eq_getElem_cons h, pvs, getElem!_pos ts i.toNat h]
/-- A kid's place. -/
theorem OpOk.indexKid {P : Program} {σ : List Ent} {T : TT} (hT : TOk P T) {o : Oper} {t e : TypeId} {x y : Operand} (ho : o.op = .indexAddr t x y) {ρ : Operand → PV} {it ie : TI} (ht : T t = some it) (hd : it.desc = .slice e) (he : T e = some ie) (hs : ie.size = 1) {ts : List Tree} {n : Nat} (hx : elemsOf (ρ x) = some (pvs ts, n))
    {k : IntKind} {i : Int} (hy : ρ y = .int k i) (h0 : 0 ≤ i) (h1 : i < n) (hn : n ≤ ts.length) : OpOk P o ρ σ (Ret (.ptr ((ts[i.toNat]!).pv :: pvs (ts.drop (i.toNat + 1)))) σ) :=
  OpOk.indexAddrE hT ho ht hd he hx hy h0 h1 (by rw [hs]; exact pvs_at (by omega))
/-- A text's place in a list. -/
theorem OpOk.indexStrs {P : Program} {σ : List Ent} {T : TT} (hT : TOk P T) {o : Oper} {t e : TypeId} {x y : Operand} (ho : o.op = .indexAddr t x y) {ρ : Operand → PV} {it ie : TI} (ht : T t = some it) (hd : it.desc = .slice e) (he : T e = some ie) (hs : ie.size = 1) {ts : List ByteArray} {n : Nat} (hx : elemsOf (ρ x) = some (strs ts, n))
    {k : IntKind} {i : Int} (hy : ρ y = .int k i) (h0 : 0 ≤ i) (h1 : i < n) (hn : n ≤ ts.length) : OpOk P o ρ σ (Ret (.ptr (.str (ts[i.toNat]!) :: strs (ts.drop (i.toNat + 1)))) σ) :=
  OpOk.indexAddrE hT ho ht hd he hx hy h0 h1 (by rw [hs]; exact strs_at (by omega))
theorem toks_at' {l : List Tok} {i : Int} (h : i.toNat < l.length) : (toks l).drop (i.toNat * 4) = .int .i64 (l[i.toNat]!).kind :: ([.str (l[i.toNat]!).text, .int .i64 (l[i.toNat]!).n, .int .i64 (l[i.toNat]!).at_] ++ toks (l.drop (i.toNat + 1))) := by
  rw [toks_at l _ h, getElem!_pos l i.toNat h]; rfl
/-- A token's place. -/
theorem OpOk.indexTok {P : Program} {σ : List Ent} {T : TT} (hT : TOk P T) {o : Oper} {t e : TypeId} {x y : Operand} (ho : o.op = .indexAddr t x y) {ρ : Operand → PV} {it ie : TI} (ht : T t = some it) (hd : it.desc = .slice e) (he : T e = some ie) (hs : ie.size = 4) {l : List Tok} {n : Nat} (hx : elemsOf (ρ x) = some (toks l, n))
    {k : IntKind} {i : Int} (hy : ρ y = .int k i) (h0 : 0 ≤ i) (h1 : i < n) (hn : n ≤ l.length) : OpOk P o ρ σ (Ret (.ptr (.int .i64 (l[i.toNat]!).kind :: ([.str (l[i.toNat]!).text, .int .i64 (l[i.toNat]!).n, .int .i64 (l[i.toNat]!).at_] ++ toks (l.drop (i.toNat + 1))))) σ) :=
  OpOk.indexAddrE hT ho ht hd he hx hy h0 h1 (by rw [hs]; exact toks_at' (by omega))
end Go.Mq
