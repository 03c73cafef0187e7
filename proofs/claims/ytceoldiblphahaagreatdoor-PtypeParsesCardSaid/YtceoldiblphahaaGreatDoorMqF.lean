/- The abstract layer, part F: operations on owned things: new blocks, loads, stores, appends. -/
import Derived.Test.YtceoldiblphahaaGreatDoorMqE
import Derived.Deep.AppendSrc
set_option linter.unusedVariables false
set_option linter.unusedSimpArgs false
set_option linter.unusedSectionVars false
namespace Go.Mq
variable [GT]

section
variable {P : Program} {σ : List Ent}

/-- A new thing in a new block. -/
theorem Sep.fresh {K : Own} {w w' : World} {e : Ent} (h : Sep σ K w) (q : Quiet w w') (ho : ∀ b j, e.owns b j → w.heap.size ≤ b) (he : e.holds ((owns (e :: σ)).or K) w') : Sep (e :: σ) K w' ∧ Trans (owns σ) w w' (owns (e :: σ)) := by
  have hq := q.sep h
  refine ⟨⟨fun x hx => ?_, ?_, fun b j hb => ?_, hq.bound, fun g j p hg => ?_⟩, ⟨q.os, q.tape, q.output, q.size, fun b j c _ hc => q.cell b j c (fun h => h) hc, fun b hb _ => q.block b hb (fun _ h => h), fun b j hb => ?_⟩⟩
  · rcases List.mem_cons.1 hx with rfl | hx
    · exact he
    · refine Ent.holds_step (fun b j c hn hc => ⟨q.cell b j c (fun h => h) hc, ?_⟩) (fun b j hb => q.block b (Ent.holds_lt (h.holds x hx) hb) (fun _ h => h)) (h.holds x hx) (fun a n cap m heq hlt => ?_)
      · rintro (h1 | h1)
        · rcases owns_cons.1 h1 with h2 | h2
          · have := ho b j h2; have := lt_of_cell hc; omega
          · exact hn (.inl h2)
        · exact hn (.inr h1)
      · have hox : x.owns a.block (a.off + n * m) := by subst heq; exact ⟨rfl, Nat.le_refl _, hlt⟩
        exact q.block _ (Ent.holds_lt (h.holds x hx) hox) (fun _ h => h)
  · refine List.pairwise_cons.2 ⟨fun x hx b j h1 h2 => ?_, h.apart⟩
    have := ho b j h1; have := Ent.holds_lt (h.holds x hx) h2; omega
  · rcases owns_cons.1 hb with h1 | h1
    · intro hK; have := ho b j h1; have := h.bound b j hK; omega
    · exact h.frame b j h1
  · obtain ⟨⟨v, hv, hp⟩, g1, g2⟩ := h.glob g j p hg
    refine ⟨⟨v, q.cell g j v (fun h => h) hv, hp⟩, fun ho' => ?_, g2⟩
    rcases owns_cons.1 ho' with h1 | h1
    · have := ho g j h1; have := lt_of_cell hv; omega
    · exact g1 h1
  · rcases owns_cons.1 hb with h1 | h1
    · exact .inr (ho b j h1)
    · exact .inl h1

theorem Rep.fresh {W W' : Own} {w w' : World} (q : Quiet w w') (hW : ∀ b j, b < w.heap.size → W' b j → W b j) {v : Value} {x : PV} (h : Rep W w v x) : Rep W' w' v x :=
  h.step fun b j c hn hc => ⟨q.cell b j c (fun h => h) hc, fun h' => hn (hW b j (lt_of_cell hc) h')⟩

def newRowWorld (w : World) (arr : Array Value) (t : TypeId) : World := { w with heap := w.heap.push (.cells arr t) }
theorem newRow_get (w : World) (arr : Array Value) (t : TypeId) : (newRowWorld w arr t).heap[w.heap.size]? = some (.cells arr t (0, 0)) := by
  show (w.heap.push _)[w.heap.size]? = _
  simp

/-- A new block of cells, owned. -/
theorem Sep.newCells {K : Own} {w : World} {arr : Array Value} {cs : List PV} (t : TypeId) (h : Sep σ K w) (hr : RepL ((owns σ).or K) w arr.toList cs) :
    Sep (.cells w.heap.size cs :: σ) K (newRowWorld w arr t) ∧ Trans (owns σ) w (newRowWorld w arr t) (owns (.cells w.heap.size cs :: σ)) := by
  refine Sep.fresh h (Quiet.alloc w _) (fun b j hb => by simp only [Ent.owns] at hb; omega) ⟨arr, t, newRow_get w arr t, by simpa using hr.1, fun j u x hu hx => ?_⟩
  refine Rep.fresh (Quiet.alloc w _) (fun b j hlt ho => ?_) (hr.2 j u x (by simpa using hu) hx)
  rcases ho with ho | ho
  · rcases owns_cons.1 ho with h1 | h1
    · simp only [Ent.owns] at h1; omega
    · exact .inl h1
  · exact .inr ho

theorem OpOk.alloc {T : TT} (hT : TOk P T) {o : Oper} {t : TypeId} (ho : o.op = .alloc t) {ρ : Operand → PV} {i : TI} (ht : T t = some i) :
    OpOk P o ρ σ fun r σ' => ∃ b, r = .loc b 0 ∧ σ' = .cells b i.zero :: σ := by
  intro K a w hs hr kk QQ hk
  obtain ⟨z, hz1, hz2, _⟩ := tt_zero hT ht
  have hrun : (execOp a.eval o).run P w = .ok (.value (.pointer (some ⟨w.heap.size, 0, none⟩))) (newRowWorld w z.cells t) := by
    simp [execOp, ho, Instr.alloc, hz1, newVar, newRow, newRowWorld]
  obtain ⟨h1, h2⟩ := Sep.newCells t hs (arr := z.cells) (cs := i.zero) (by rw [← hz2]; exact RepL.ofConst _ w _)
  unfold Oper.wp
  rw [hrun, Oper.upon_value]
  exact hk _ _ _ _ ⟨_, rfl, rfl⟩ h1 (.loc _ _) h2

theorem OpOk.box {T : TT} {o : Oper} {t : TypeId} {x : Operand} (ho : o.op = .box t x) {ρ : Operand → PV} (hx : (ρ x).solid = true) :
    OpOk P o ρ σ fun r σ' => ∃ b, r = .loc b 0 ∧ σ' = .cells b (ρ x).cells :: σ := by
  intro K a w hs hr kk QQ hk
  have hrun : (execOp a.eval o).run P w = .ok (.value (.pointer (some ⟨w.heap.size, 0, none⟩))) (newRowWorld w (a.eval x).cells t) := by
    simp [execOp, ho, Instr.box, newVar, newRow, newRowWorld]
  obtain ⟨h1, h2⟩ := Sep.newCells t hs (arr := (a.eval x).cells) ((hr x (by rw [ho]; simp [Op.operands])).cells hx)
  unfold Oper.wp
  rw [hrun, Oper.upon_value]
  exact hk _ _ _ _ ⟨_, rfl, rfl⟩ h1 (.loc _ _) h2

theorem owns_mid {pre post : List Ent} {e e' : Ent} (h : ∀ b j, e.owns b j ↔ e'.owns b j) : owns (pre ++ e :: post) = owns (pre ++ e' :: post) := by
  funext b j; apply propext
  rw [owns_append, owns_append, owns_cons, owns_cons, h]

theorem OpOk.loadLoc {T : TT} (hT : TOk P T) {o : Oper} {t : TypeId} {x : Operand} (ho : o.op = .load t x) {ρ : Operand → PV} {i : TI} (ht : T t = some i) {b off : Nat} (hx : ρ x = .loc b off) {cs : List PV} (he : .cells b cs ∈ σ) {r : PV}
    (h : aload i (cs.drop off) = some r) : OpOk P o ρ σ fun r' σ' => r' = r ∧ σ' = σ := by
  intro K a w hs hr kk QQ hk
  have h1 := hr x (by rw [ho]; simp [Op.operands])
  rw [hx] at h1
  have hv := rep_loc h1
  obtain ⟨arr, t', hb, hsz, hrep⟩ := hs.holds _ he
  obtain ⟨v, hv2, hrv⟩ := loadVar_ptr (P := P) hT ht (W := (owns σ).or K) (w := w) (b := b) (o := off) (cs := cs.drop off) (c := fun j => arr.getD (off + j) undef) (fun j hj => by
      simp at hj
      have : off + j < arr.size := by omega
      simp [World.cell?, hb, this]) (fun j x hx => by
      rw [List.getElem?_drop] at hx
      have hlt : off + j < arr.size := by have := (List.getElem?_eq_some_iff.1 hx).1; omega
      exact hrep (off + j) _ x (by simp [hlt]) hx) h
  have hrun : (execOp a.eval o).run P w = .ok (.value v) w := by
    simp [execOp, ho, hv, Instr.loadAt, Instr.sureAddr, hv2]
  unfold Oper.wp
  rw [hrun, Oper.upon_value]
  exact hk v r σ w ⟨rfl, rfl⟩ hs hrv (Trans.refl _ _)

def PV.one : PV → Bool
  | .agg _ | .tup _ | .junk => false
  | _ => true
theorem rep_one {W : Own} {w : World} {v : Value} {x : PV} (h : Rep W w v x) (ho : x.one = true) : v.oneCell' = true := by
  induction h <;> first
    | rfl
    | (simp [PV.one] at ho; done)
    | assumption
    | (rename_i ih; exact ih rfl)

theorem setRow_quietish {w : World} {b : Nat} {old arr : Array Value} {t : TypeId} (hb : w.heap[b]? = some (.cells old t (0, 0))) {O O' : Own} (hO : ∀ j c, ¬ O b j → old[j]? = some c → arr[j]? = some c) (hex : ∃ j, O b j) (hO' : ∀ b j, O' b j → O b j) :
    Trans O w (w.setRow b arr) O' := {
  os := rfl
  tape := rfl
  output := rfl
  size := by simp
  cell := fun b' j c hn hc => by
    by_cases hbb : b' = b
    · subst hbb
      rw [cell_setRow_same w b' j old arr t _ hb]
      refine hO j c hn ?_
      simpa [World.cell?, hb] using hc
    · rw [cell_setRow_other w b arr _ hbb]; exact hc
  block := fun b' hb' hn => by
    by_cases hbb : b' = b
    · subst hbb; obtain ⟨j, hj⟩ := hex; exact absurd hj (hn j)
    · exact setRow_other w b b' arr hbb
  own := fun b j h => .inl (hO' b j h) }

/-- The owned thing in the middle is written. -/
theorem Sep.turn {pre post : List Ent} {e e' : Ent} {K : Own} {w w' : World} (h : Sep (pre ++ e :: post) K w) (hsub : ∀ b j, e'.owns b j → e.owns b j) (t : Trans e.owns w w' e'.owns) (he : e'.holds ((owns (pre ++ e' :: post)).or K) w') :
    Sep (pre ++ e' :: post) K w' ∧ Trans (owns (pre ++ e :: post)) w w' (owns (pre ++ e' :: post)) := by
  have hp : (pre ++ e :: post).Perm ([e] ++ (pre ++ post)) := List.perm_middle
  have hp' : (pre ++ e' :: post).Perm ([e'] ++ (pre ++ post)) := List.perm_middle
  have hs := h.perm hp
  have one : ∀ x : Ent, owns [x] = x.owns := fun x => by
    funext b j; apply propext; rw [owns_cons]; exact ⟨fun h => h.resolve_right (owns_nil b j), .inl⟩
  have hj := Sep.join (σ := [e]) (σ' := [e']) hs (w' := w') ⟨fun x hx => by
      obtain rfl : x = e' := by simpa using hx
      rw [← or_assoc_own, ← owns_append_eq, ← owns_perm_eq hp']; exact he, by simp, fun b j ho => by
      have := hs.split.frame b j (by rw [one]; rw [one] at ho; exact hsub b j ho)
      exact this, fun b j hK => Nat.lt_of_lt_of_le (hs.split.bound b j hK) t.size, fun g j p hg => by
      obtain ⟨⟨v, hv, hp⟩, g1, g2⟩ := hs.split.glob g j p hg
      rw [one] at g1
      exact ⟨⟨v, t.cell g j v g1 hv, hp⟩, by rw [one]; exact fun ho' => g1 (hsub g j ho'), g2⟩⟩ (by rw [one, one]; exact t)
  refine ⟨hj.1.perm hp'.symm, ?_⟩
  rw [owns_perm_eq hp, owns_perm_eq hp']; exact hj.2

theorem OpOk.storeLoc {T : TT} (hT : TOk P T) {o : Oper} {t : TypeId} {x y : Operand} (ho : o.op = .store t x y) {ρ : Operand → PV} {i : TI} (ht : T t = some i) {b off : Nat} (hx : ρ x = .loc b off) {pre post : List Ent} {cs : List PV}
    (hσ : σ = pre ++ .cells b cs :: post) (hsz : (ρ y).cells.length = i.size) (hle : off + i.size ≤ cs.length) (hso : (ρ y).solid = true) (hone : (ρ y).cells.all PV.one = true) :
    OpOk P o ρ σ fun r' σ' => r' = .junk ∧ σ' = pre ++ .cells b (cs.take off ++ (ρ y).cells ++ cs.drop (off + i.size)) :: post := by
  subst hσ
  intro K a w hs hr kk QQ hk
  have h1 := hr x (by rw [ho]; simp [Op.operands])
  have h2 := (hr y (by rw [ho]; simp [Op.operands])).cells hso
  rw [hx] at h1
  have hv := rep_loc h1
  obtain ⟨arr, t', hb, hasz, hrep⟩ := hs.holds (.cells b cs) (by simp)
  have hone' : ∀ u ∈ (a.eval y).cells.toList, u.oneCell' = true := fun u hu => by
    obtain ⟨j, hj, hju⟩ := List.getElem_of_mem hu
    have hj' : j < (ρ y).cells.length := by rw [← h2.1]; exact hj
    refine rep_one (h2.2 j u _ (by rw [List.getElem?_eq_getElem hj, hju]) (List.getElem?_eq_getElem hj')) ?_
    exact List.all_eq_true.1 hone _ (List.getElem_mem hj')
  have hlen : (a.eval y).cells.toList.length = i.size := by rw [h2.1, hsz]
  have hlen' : (a.eval y).cells.size = i.size := by simpa using hlen
  have hst := run_storeCells_at (P := P) b off t' (a.eval y).cells.toList 0 arr w hb (by omega) hone'
  simp only [Nat.add_zero] at hst
  have hrun : (execOp a.eval o).run P w = .ok .skip (w.setRow b (arr.toList.take off ++ (a.eval y).cells.toList ++ arr.toList.drop (off + (a.eval y).cells.toList.length)).toArray) := by
    simp [execOp, ho, hv, Instr.storeAt, Instr.sureAddr, storeVar, tt_size hT ht, hlen', hst]
  unfold Oper.wp
  rw [hrun, Oper.upon_skip]
  have hRL : RepL ((owns (pre ++ .cells b cs :: post)).or K) w (arr.toList.take off ++ (a.eval y).cells.toList ++ arr.toList.drop (off + (a.eval y).cells.toList.length)) (cs.take off ++ (ρ y).cells ++ cs.drop (off + i.size)) := by
    rw [hlen]
    have hA : RepL ((owns (pre ++ .cells b cs :: post)).or K) w arr.toList cs := ⟨by simpa using hasz, fun j u x hu hx => hrep j u x (by simpa using hu) hx⟩
    exact ((hA.take off).append h2).append (hA.drop _)
  have ht' : Trans (Ent.cells b cs).owns w (w.setRow b (arr.toList.take off ++ (a.eval y).cells.toList ++ arr.toList.drop (off + (a.eval y).cells.toList.length)).toArray) (Ent.cells b (cs.take off ++ (ρ y).cells ++ cs.drop (off + i.size))).owns :=
    setRow_quietish hb (fun j c hn => absurd rfl hn) ⟨0, rfl⟩ (fun b j h => h)
  obtain ⟨g1, g2⟩ := Sep.turn (e' := .cells b (cs.take off ++ (ρ y).cells ++ cs.drop (off + i.size))) hs (fun b j h => h) ht' ⟨_, t', setRow_heap w b arr _ t' _ hb, by simpa using hRL.1, fun j u x hu hx => by
    have hm : owns (pre ++ .cells b (cs.take off ++ (ρ y).cells ++ cs.drop (off + i.size)) :: post) = owns (pre ++ .cells b cs :: post) := owns_mid (fun _ _ => Iff.rfl)
    rw [hm]
    refine (hRL.2 j u x (by simpa using hu) hx).step fun b' j' c hn hc => ⟨?_, hn⟩
    refine ht'.cell b' j' c (fun ho' => hn (.inl ?_)) hc
    exact owns_append.2 (.inr (owns_cons.2 (.inl ho')))⟩
  exact hk undef .junk _ _ ⟨rfl, rfl⟩ g1 (.junk _) g2
end
end Go.Mq
