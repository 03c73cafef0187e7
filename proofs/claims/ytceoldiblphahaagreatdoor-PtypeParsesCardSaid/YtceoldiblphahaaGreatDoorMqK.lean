/- The abstract layer, part K: min, max, quotients, ranging over a text, maps, made slices. -/
import Derived.Test.YtceoldiblphahaaGreatDoorMqJ
set_option linter.unusedVariables false
set_option linter.unusedSimpArgs false
set_option linter.unusedSectionVars false
namespace Go.Mq
variable [GT]
section
variable {P : Program} {σ : List Ent}

theorem OpOk.min2 {o : Oper} {x y : Operand} {t u : TypeId} (ho : o.op = .call ⟨.builtin .min, #[x, y], #[t, u]⟩) {ρ : Operand → PV} {k k' : IntKind} {a b : Int} (hx : ρ x = .int k a) (hy : ρ y = .int k' b) : OpOk P o ρ σ (Ret (.int k (if b < a then b else a)) σ) := by
  refine OpOk.ofRun fun W ac w hr => ?_
  have hx' := hr x (by rw [ho]; simp [Op.operands, Call.operands])
  have hy' := hr y (by rw [ho]; simp [Op.operands, Call.operands])
  rw [hx] at hx'; rw [hy] at hy'
  exact ⟨.int k (if b < a then b else a), by simp [execOp, ho, resolve, invoke, builtin, Builtin.min_, Builtin.min2, rep_int hx', rep_int hy'], .int _ _⟩
theorem OpOk.max2 {o : Oper} {x y : Operand} {t u : TypeId} (ho : o.op = .call ⟨.builtin .max, #[x, y], #[t, u]⟩) {ρ : Operand → PV} {k k' : IntKind} {a b : Int} (hx : ρ x = .int k a) (hy : ρ y = .int k' b) : OpOk P o ρ σ (Ret (.int k (if b > a then b else a)) σ) := by
  refine OpOk.ofRun fun W ac w hr => ?_
  have hx' := hr x (by rw [ho]; simp [Op.operands, Call.operands])
  have hy' := hr y (by rw [ho]; simp [Op.operands, Call.operands])
  rw [hx] at hx'; rw [hy] at hy'
  exact ⟨.int k (if b > a then b else a), by simp [execOp, ho, resolve, invoke, builtin, Builtin.max_, Builtin.max2, rep_int hx', rep_int hy'], .int _ _⟩

/-- A text's iterator. -/
theorem OpOk.rangeStr {T : TT} (hT : TOk P T) {o : Oper} {t : TypeId} {x : Operand} (ho : o.op = .range t x) {ρ : Operand → PV} {it : TI} (ht : T t = some it) (hd : it.desc = .str) {s : ByteArray} (hx : ρ x = .str s) : OpOk P o ρ σ fun r σ' => ∃ b, r = .loc b 0 ∧ σ' = .iter b s 0 :: σ := by
  intro K a w hs hr kk QQ hk
  have hu := tt_und hT ht
  rw [hd] at hu
  simp only [DescOk] at hu
  have hx' := hr x (by rw [ho]; simp [Op.operands])
  rw [hx] at hx'
  have hrun : (execOp a.eval o).run P w = .ok (.value (.pointer (some ⟨w.heap.size, 0, none⟩))) { w with heap := w.heap.push (.stringIter s 0) } := by
    simp [execOp, ho, rep_str hx', Instr.range, run_underlying' hu]
  obtain ⟨h1, h2⟩ := Sep.fresh (e := .iter w.heap.size s 0) hs (Quiet.alloc w (.stringIter s 0)) (fun b j hb => by simp only [Ent.owns] at hb; omega) (by
    show (w.heap.push _)[w.heap.size]? = _
    simp)
  unfold Oper.wp
  rw [hrun, Oper.upon_value]
  exact hk _ _ _ _ ⟨_, rfl, rfl⟩ h1 (.loc _ _) h2

def nextStr (s : ByteArray) (pos : Nat) : PV :=
  if pos < s.size then .tup [.bool true, .int .i64 pos, .int .i32 (Utf8.decode s pos).1] else .tup [.bool false]
def nextPos (s : ByteArray) (pos : Nat) : Nat := if pos < s.size then pos + (Utf8.decode s pos).2 else pos

theorem setObj_trans {w : World} {r : Nat} {o o' : Obj} (h : w.heap[r]? = some o) (hc : ∀ j, w.cell? ⟨r, j, none⟩ = none) : Trans (fun b _ => b = r) w { w with heap := w.heap.setIfInBounds r o' } (fun b _ => b = r) := {
  os := rfl
  tape := rfl
  output := rfl
  size := by simp
  cell := fun b j c hn hcell => by
    have hne : ¬ r = b := fun e => hn e.symm
    simp only [World.cell?] at hcell ⊢
    rw [Array.getElem?_setIfInBounds_ne hne]; exact hcell
  block := fun b hb hn => by
    have hne : ¬ r = b := fun e => hn 0 e.symm
    rw [Array.getElem?_setIfInBounds_ne hne]
  own := fun b j h => .inl h }

theorem OpOk.nextStr {o : Oper} {x : Operand} (ho : o.op = .next x true) {ρ : Operand → PV} {b : Nat} (hx : ρ x = .loc b 0) {pre post : List Ent} {s : ByteArray} {pos : Nat} (hσ : σ = pre ++ .iter b s pos :: post) :
    OpOk P o ρ σ (Ret (Mq.nextStr s pos) (pre ++ .iter b s (nextPos s pos) :: post)) := by
  subst hσ
  intro K a w hs hr kk QQ hk
  have hx' := hr x (by rw [ho]; simp [Op.operands])
  rw [hx] at hx'
  have hv := rep_loc hx'
  have hb : w.heap[b]? = some (.stringIter s pos) := hs.holds (.iter b s pos) (by simp)
  have hlt : b < w.heap.size := (Array.getElem?_eq_some_iff.1 hb).1
  have hbe : w.heap[b] = .stringIter s pos := (Array.getElem?_eq_some_iff.1 hb).2
  have hget : (getObj b).run P w = .ok (.stringIter s pos) w := by
    simp [getObj, Sem.run, hb]
  unfold Oper.wp
  by_cases hp : pos < s.size
  · have hset : (setObj b (.stringIter s (pos + (Utf8.decode s pos).2))).run P w = .ok () { w with heap := w.heap.setIfInBounds b (.stringIter s (pos + (Utf8.decode s pos).2)) } := by
      simp [setObj, Sem.run, hb]
    have hrun : (execOp a.eval o).run P w = .ok (.value (.tuple #[.bool true, .int .i64 pos, .int .i32 (Utf8.decode s pos).1])) { w with heap := w.heap.setIfInBounds b (.stringIter s (pos + (Utf8.decode s pos).2)) } := by
      simp [execOp, ho, hv, Instr.next, hget, hp, hset, goInt]
    rw [hrun, Oper.upon_value]
    have hnp : nextPos s pos = pos + (Utf8.decode s pos).2 := by simp [nextPos, hp]
    have ht := setObj_trans (w := w) (r := b) (o' := .stringIter s (pos + (Utf8.decode s pos).2)) hb (fun j => by simp [World.cell?, hb])
    obtain ⟨g1, g2⟩ := Sep.turn (e' := .iter b s (nextPos s pos)) hs (fun _ _ h => h) ht (by
      show (w.heap.setIfInBounds b _)[b]? = _
      simp [hlt, hnp])
    refine hk _ _ _ _ ⟨rfl, rfl⟩ g1 ?_ g2
    simp only [Mq.nextStr, hp, if_true]
    refine .tup rfl (fun j u x hu hx => ?_)
    match j with
    | 0 => simp at hu hx; subst hu; subst hx; exact .bool _
    | 1 => simp at hu hx; subst hu; subst hx; exact .int _ _
    | 2 => simp at hu hx; subst hu; subst hx; exact .int _ _
    | j + 3 => simp at hx
  · have hrun : (execOp a.eval o).run P w = .ok (.value (.tuple #[.bool false])) w := by
      simp [execOp, ho, hv, Instr.next, hget, hp]
    rw [hrun, Oper.upon_value]
    have hnp : nextPos s pos = pos := by simp [nextPos, hp]
    refine hk _ _ _ _ ⟨rfl, by rw [hnp]⟩ hs ?_ (Trans.refl _ _)
    simp only [Mq.nextStr, hp, if_false]
    refine .tup rfl (fun j u x hu hx => ?_)
    match j with
    | 0 => simp at hu hx; subst hu; subst hx; exact .bool _
    | j + 1 => simp at hx

theorem OpOk.nextIn {o : Oper} {x : Operand} (ho : o.op = .next x true) {ρ : Operand → PV} {b : Nat} (hx : ρ x = .loc b 0) (pre : List Ent) {post : List Ent} {s : ByteArray} {pos : Nat} (hσ : σ = pre ++ .iter b s pos :: post) (hp : pos < s.size) :
    OpOk P o ρ σ (Ret (.tup [.bool true, .int .i64 pos, .int .i32 (Utf8.decode s pos).1]) (pre ++ .iter b s (pos + (Utf8.decode s pos).2) :: post)) := by
  have := OpOk.nextStr (P := P) ho hx hσ
  rw [Mq.nextStr, if_pos hp, nextPos, if_pos hp] at this
  exact this
theorem OpOk.nextEnd {o : Oper} {x : Operand} (ho : o.op = .next x true) {ρ : Operand → PV} {b : Nat} (hx : ρ x = .loc b 0) (pre : List Ent) {post : List Ent} {s : ByteArray} {pos : Nat} (hσ : σ = pre ++ .iter b s pos :: post) (hp : ¬ pos < s.size) :
    OpOk P o ρ σ (Ret (.tup [.bool false]) σ) := by
  have := OpOk.nextStr (P := P) ho hx hσ
  rw [Mq.nextStr, if_neg hp, nextPos, if_neg hp, ← hσ] at this
  exact this
theorem OpOk.loadR {T : TT} (hT : TOk P T) {o : Oper} {t : TypeId} {x : Operand} (ho : o.op = .load t x) {ρ : Operand → PV} {i : TI} (ht : T t = some i) {b off : Nat} (hx : ρ x = .loc b off) {cs : List PV} (he : .cells b cs ∈ σ) {r0 r : PV}
    (h : aload i (cs.drop off) = some r0) (e : r0 = r) : OpOk P o ρ σ (Ret r σ) := by subst e; exact OpOk.loadLoc hT ho ht hx he h
/-- A store of one cell. -/
theorem OpOk.store1 {T : TT} (hT : TOk P T) {o : Oper} {t : TypeId} {x y : Operand} (ho : o.op = .store t x y) {ρ : Operand → PV} {i : TI} (ht : T t = some i) (hs : i.size = 1) {b off : Nat} (hx : ρ x = .loc b off) (pre post : List Ent) {cs cs' : List PV}
    (hσ : σ = pre ++ .cells b cs :: post) {v0 v : PV} (hy : ρ y = v0) (e : v0 = v) (hone : v.one = true) (hle : Nat.blt off cs.length = true) (hcs : cs.set off v = cs') : OpOk P o ρ σ (Ret .junk (pre ++ .cells b cs' :: post)) := by
  subst e
  have hcells : (ρ y).cells = [v0] := by rw [hy]; cases v0 <;> first | rfl | simp [PV.one] at hone
  have hsolid : (ρ y).solid = true := by rw [hy]; cases v0 <;> first | rfl | simp [PV.one] at hone
  have hlt : off < cs.length := by simpa [Nat.blt_eq] using hle
  have := OpOk.storeLoc (σ := σ) hT ho ht hx hσ (by rw [hcells, hs]; rfl) (by omega) hsolid (by rw [hcells]; simp [hone])
  rw [hcells, hs] at this
  have hset : cs.take off ++ [v0] ++ cs.drop (off + 1) = cs.set off v0 := by
    rw [List.set_eq_take_append_cons_drop, if_pos hlt]; simp
  rw [hset, hcs] at this
  exact this
/-- A store of a whole variable. -/
theorem OpOk.storeAll {T : TT} (hT : TOk P T) {o : Oper} {t : TypeId} {x y : Operand} (ho : o.op = .store t x y) {ρ : Operand → PV} {i : TI} (ht : T t = some i) {b : Nat} (hx : ρ x = .loc b 0) (pre post : List Ent) {cs vs : List PV}
    (hσ : σ = pre ++ .cells b cs :: post) {v0 : PV} (hy : ρ y = v0) (e : v0 = .agg vs) (hl : vs.length = i.size) (hl2 : cs.length = i.size) (hone : vs.all PV.one = true) : OpOk P o ρ σ (Ret .junk (pre ++ .cells b vs :: post)) := by
  subst e
  have hcells : (ρ y).cells = vs := by rw [hy]; rfl
  have := OpOk.storeLoc (σ := σ) hT ho ht hx hσ (by rw [hcells, hl]) (by omega) (by rw [hy]; rfl) (by rw [hcells]; exact hone)
  rw [hcells] at this
  have e2 : cs.take 0 ++ vs ++ cs.drop (0 + i.size) = vs := by simp [← hl2]
  rw [e2] at this
  exact this
end
end Go.Mq
