/- The abstract layer, part R: a map from texts to true, as a list of texts. -/
import Derived.Test.YtceoldiblphahaaGreatDoorMqM
import Derived.Test.YtceoldiblphahaaGreatDoorMqK
import Derived.MapKept
set_option linter.unusedVariables false
set_option linter.unusedSimpArgs false
set_option linter.unusedSectionVars false
namespace Go.Mq
variable [GT]

/-- A set of texts. -/
abbrev sset (r : Nat) (l : List ByteArray) : Ent := .map r 0 (l.map fun s => (.str s, .bool true))

section
variable {P : Program} {N : Nat} {σ : List Ent}

theorem OpOk.newMap {o : Oper} {t : TypeId} (ho : o.op = .makeMap t none) {ρ : Operand → PV} : OpOk P o ρ σ fun r σ' => ∃ b, r = .mapp b ∧ σ' = sset b [] :: σ := by
  intro K a w hs hr kk QQ hk
  have hrun : (execOp a.eval o).run P w = .ok (.value (.map (some w.heap.size))) { w with heap := w.heap.push (.map #[] 0) } := by
    simp [execOp, ho, Instr.makeMap, newObj, Sem.run]
  obtain ⟨h1, h2⟩ := Sep.fresh (e := sset w.heap.size []) hs (Quiet.alloc w (.map #[] 0)) (fun b j hb => by simp only [Ent.owns] at hb; omega) ⟨#[], 0, by simp, rfl, fun j e x he hx => by simp at he⟩
  unfold Oper.wp
  rw [hrun, Oper.upon_value]
  exact hk _ _ _ _ ⟨_, rfl, rfl⟩ h1 (.mapp _) h2

theorem rep_mapp {W : Own} {w : World} {v : Value} {r : Nat} (h : Rep W w v (.mapp r)) : v = .map (some r) := by cases h; rfl
theorem any_findIdx {α : Type} (p : α → Bool) (l : List α) : l.any p = (l.findIdx? p).isSome := by
  induction l with
  | nil => rfl
  | cons x l ih =>
    rw [List.any_cons, List.findIdx?_cons, ih]
    cases p x <;> simp
theorem findNow_strs (s : ByteArray) : ∀ (es : List MapEntry) (l : List ByteArray) (i : Nat), es.length = l.length → (∀ (j : Nat) (e : MapEntry) (y : ByteArray), es[j]? = some e → l[j]? = some y → e.key = .string y ∧ e.val = .bool true) →
    Instr.findNow .string (.string s) es i = some ((l.findIdx? fun y => decide (s = y)).map fun j => (i + j, .bool true))
  | [], [], i, _, _ => rfl
  | [], _ :: _, _, h, _ => by simp at h
  | _ :: _, [], _, h, _ => by simp at h
  | e :: es, y :: l, i, h, hh => by
    obtain ⟨h1, h2⟩ := hh 0 e y rfl rfl
    have ih := findNow_strs s es l (i + 1) (by simpa using h) (fun j e y he hy => hh (j + 1) e y (by simpa using he) (by simpa using hy))
    have hb : (s == y) = decide (s = y) := by
      rw [Bool.eq_iff_iff, Go.MapKept.bytes_beq]; simp
    unfold Instr.findNow
    rw [h1, h2]
    simp only [Instr.sameNow, hb]
    by_cases hs : s = y
    · subst hs; simp [List.findIdx?_cons]
    · simp only [hs, decide_false]
      rw [ih, List.findIdx?_cons]
      simp only [hs, decide_false]
      cases List.findIdx? (fun y => decide (s = y)) l <;> simp <;> omega

theorem sset_at {r : Nat} {l : List ByteArray} {W : Own} {w : World} (h : (sset r l).holds W w) : ∃ es clock, w.heap[r]? = some (.map es clock) ∧ es.size = l.length ∧ ∀ (j : Nat) (e : MapEntry) (y : ByteArray), es.toList[j]? = some e → l[j]? = some y → e.key = .string y ∧ e.val = .bool true := by
  obtain ⟨es, clock, h1, h2, h3⟩ := h
  refine ⟨es, clock, h1, by simpa using h2, fun j e y he hy => ?_⟩
  have := h3 j e (.str y, .bool true) (by simpa using he) (by simp [hy])
  exact ⟨rep_str this.1, rep_bool this.2⟩

/-- Is a text in it? -/
theorem OpOk.hasKey {T : TT} (hT : TOk P T) {o : Oper} {t kt et : TypeId} {m x : Operand} (ho : o.op = .lookup t m x false) {ρ : Operand → PV} {i ik ie : TI} (ht : T t = some i) (hd : i.desc = .map kt et) (hk : T kt = some ik) (hkd : ik.desc = .str) (he : T et = some ie) (hz : ie.zero = [.bool false]) (hed : ie.desc = .bool)
    {r : Nat} (hm : ρ m = .mapp r) {s : ByteArray} (hx : ρ x = .str s) {l : List ByteArray} (hσ : sset r l ∈ σ) : OpOk P o ρ σ (Ret (.bool (l.any fun y => decide (s = y))) σ) := by
  intro K a w hs hr kk QQ hkk
  have hu := tt_und hT ht
  rw [hd] at hu
  simp only [DescOk] at hu
  have huk := tt_und hT hk
  rw [hkd] at huk
  simp only [DescOk] at huk
  have hm' := hr m (by rw [ho]; simp [Op.operands])
  have hx' := hr x (by rw [ho]; simp [Op.operands])
  rw [hm] at hm'; rw [hx] at hx'
  obtain ⟨es, clock, hb, hsz, hes⟩ := sset_at (hs.holds _ hσ)
  have hget : (getObj r).run P w = .ok (.map es clock) w := by simp [getObj, Sem.run, hb]
  have hf := findNow_strs s es.toList l 0 (by simpa using hsz) hes
  have hfk := Go.MapKept.run_findKey (P := P) (w := w) huk hf
  obtain ⟨z, hz1, hz2, hz3, _⟩ := tt_zero hT he
  have hzv : z = .bool false := by
    have h1 := hz3 (fun fs => by rw [hed]; simp)
    rw [h1, hz] at hz2
    simp only [List.map_cons, List.map_nil, List.cons.injEq, and_true] at hz2
    cases z <;> simp only [ofConst] at hz2 <;> first | (cases hz2; rfl) | skip
    all_goals (repeat' split at hz2) <;> (try cases hz2) <;> assumption
  have hck : (Instr.checkKey es.isEmpty 10000 kt (.string s)).run P w = .ok () w := Go.MapKept.run_checkKey huk (by simp [Go.MapKept.IsKey]) _ 9999
  have hrun : (execOp a.eval o).run P w = .ok (.value (.bool (l.any fun y => decide (s = y)))) w := by
    have hl : (Instr.lookup t (.map (some r)) (.string s) false).run P w = .ok (.bool (l.any fun y => decide (s = y))) w := by
      simp only [Instr.lookup, run_underlying' hu, Sem.run_bind, Result.andThen, hget, hck, hfk]
      have hany : (l.any fun y => decide (s = y)) = (l.findIdx? fun y => decide (s = y)).isSome := any_findIdx _ _
      simp only [Sem.run_pure, hck, hfk]
      rw [hany]
      cases List.findIdx? (fun y => decide (s = y)) l with
      | none => simp [hz1, hzv]
      | some j => simp
    simp [execOp, ho, rep_str hx', rep_mapp hm', hl]
  unfold Oper.wp
  rw [hrun, Oper.upon_value]
  exact hkk _ _ _ _ ⟨rfl, rfl⟩ hs (.bool _) (Trans.refl _ _)

/-- A text put in. -/
theorem OpOk.addKey {T : TT} (hT : TOk P T) {o : Oper} {t kt et : TypeId} {m x v : Operand} (ho : o.op = .mapUpdate t m x v) {ρ : Operand → PV} {i ik : TI} (ht : T t = some i) (hd : i.desc = .map kt et) (hk : T kt = some ik) (hkd : ik.desc = .str)
    {r : Nat} (hm : ρ m = .mapp r) {s : ByteArray} (hx : ρ x = .str s) (hv : ρ v = .bool true) (pre : List Ent) {post : List Ent} {l : List ByteArray} (hσ : σ = pre ++ sset r l :: post) : OpOk P o ρ σ (Ret .junk (pre ++ sset r (if l.any (fun y => decide (s = y)) = true then l else l ++ [s]) :: post)) := by
  subst hσ
  intro K a w hs hr kk QQ hkk
  have hu := tt_und hT ht
  rw [hd] at hu
  simp only [DescOk] at hu
  have huk := tt_und hT hk
  rw [hkd] at huk
  simp only [DescOk] at huk
  have hm' := hr m (by rw [ho]; simp [Op.operands])
  have hx' := hr x (by rw [ho]; simp [Op.operands])
  have hv' := hr v (by rw [ho]; simp [Op.operands])
  rw [hm] at hm'; rw [hx] at hx'; rw [hv] at hv'
  have hhold : (sset r l).holds ((owns (pre ++ sset r l :: post)).or K) w := hs.holds _ (by simp)
  obtain ⟨es, clock, hb, hsz, hes⟩ := sset_at hhold
  have hlt : r < w.heap.size := (Array.getElem?_eq_some_iff.1 hb).1
  have hget : (getObj r).run P w = .ok (.map es clock) w := by simp [getObj, Sem.run, hb]
  have hf := findNow_strs s es.toList l 0 (by simpa using hsz) hes
  have hfk := Go.MapKept.run_findKey (P := P) (w := w) huk hf
  have hck : (Instr.checkKey false 10000 kt (.string s)).run P w = .ok () w := Go.MapKept.run_checkKey huk (by simp [Go.MapKept.IsKey]) _ 9999
  have hset : ∀ o', (setObj r o').run P w = .ok () { w with heap := w.heap.setIfInBounds r o' } := fun o' => by simp [setObj, Sem.run, hb]
  have hany : (l.any fun y => decide (s = y)) = (l.findIdx? fun y => decide (s = y)).isSome := any_findIdx _ _
  have hrun : ∃ es' clock', (execOp a.eval o).run P w = .ok .skip { w with heap := w.heap.setIfInBounds r (.map es' clock') } ∧
      es'.size = (if l.any (fun y => decide (s = y)) = true then l else l ++ [s]).length ∧ ∀ (j : Nat) (e : MapEntry) (y : ByteArray), es'.toList[j]? = some e → (if l.any (fun y => decide (s = y)) = true then l else l ++ [s])[j]? = some y → e.key = .string y ∧ e.val = .bool true := by
    cases hi : List.findIdx? (fun y => decide (s = y)) l with
    | none =>
      rw [hi] at hany hfk
      refine ⟨es.push ⟨.string s, .bool true, clock⟩, clock + 1, ?_, ?_, ?_⟩
      · have hl : (Instr.mapUpdate t (.map (some r)) (.string s) (.bool true)).run P w = .ok () { w with heap := w.heap.setIfInBounds r (.map (es.push ⟨.string s, .bool true, clock⟩) (clock + 1)) } := by
          simp [Instr.mapUpdate, run_underlying' hu, Sem.run_bind, Result.andThen, hget, hck, hfk, hset]
        simp [execOp, ho, rep_str hx', rep_mapp hm', rep_bool hv', hl]
      · rw [hany]; simp [hsz]
      · rw [hany]
        intro j e y he hy
        simp only [Option.isSome_none, Bool.false_eq_true, if_false, Array.toList_push, List.getElem?_append] at he hy
        by_cases hj : j < es.size
        · rw [if_pos (by simpa using hj)] at he
          rw [if_pos (by omega)] at hy
          exact hes j e y he hy
        · rw [if_neg (by simpa using hj)] at he
          rw [if_neg (by omega)] at hy
          have e0 : j - es.toList.length = j - l.length := by simp [hsz]
          rw [e0] at he
          cases hq : j - l.length with
          | zero => rw [hq] at he hy; simp at he hy; subst he; subst hy; exact ⟨rfl, rfl⟩
          | succ k => rw [hq] at he; simp at he
    | some k =>
      rw [hi] at hany hfk
      obtain ⟨hk1, hk2, _⟩ := List.findIdx?_eq_some_iff_getElem.1 hi
      have hke : k < es.size := by omega
      obtain ⟨q1, q2⟩ := hes k es[k] l[k] (by simp [hke]) (by simp [hk1])
      have hsk : s = l[k] := by simpa using hk2
      have hmod : es.modify k (fun e => { e with key := .string s, val := .bool true }) = es := by
        apply Array.ext (by simp)
        intro j h1 h2
        rw [Array.getElem_modify]
        split
        · rename_i hkj
          subst hkj
          cases hq : es[k] with
          | mk key val born =>
            rw [hq] at q1 q2
            simp only at q1 q2
            rw [q1, q2, ← hsk]
        · rfl
      refine ⟨es, clock, ?_, ?_, ?_⟩
      · have hstay : (Instr.keyThatStays (((es[k]?).map (·.key)).getD (.string s)) (.string s)).run P w = .ok (.string s) w := by
          have : ((es[k]?).map (·.key)).getD (.string s) = .string s := by simp [hke, q1, ← hsk]
          rw [this]
          simp [Instr.keyThatStays, Instr.sameBits, (Go.MapKept.bytes_beq s s).2 rfl]
        have hl : (Instr.mapUpdate t (.map (some r)) (.string s) (.bool true)).run P w = .ok () { w with heap := w.heap.setIfInBounds r (.map es clock) } := by
          simp only [Instr.mapUpdate, run_underlying' hu, Sem.run_bind, Sem.run_pure, Result.andThen, hget, hck, hfk, Option.map_some, Nat.zero_add, hstay, hset, hmod]
        simp [execOp, ho, rep_str hx', rep_mapp hm', rep_bool hv', hl]
      · rw [hany]; simp [hsz]
      · rw [hany]
        intro j e y he hy
        exact hes j e y he (by simpa using hy)
  obtain ⟨es', clock', hrun, hs1, hs2⟩ := hrun
  generalize (if l.any (fun y => decide (s = y)) = true then l else l ++ [s]) = l' at hs1 hs2 hkk
  have ht2 := setObj_trans (w := w) (r := r) (o' := .map es' clock') hb (fun j => by simp [World.cell?, hb])
  obtain ⟨g1, g2⟩ := Sep.turn (e' := sset r l') hs (fun _ _ h => h) ht2 ⟨es', clock', by simp [hlt], by simpa using hs1, fun j e x he hx => by
    simp only [List.getElem?_map] at hx
    obtain ⟨y, hy, rfl⟩ := Option.map_eq_some_iff.1 hx
    obtain ⟨e1, e2⟩ := hs2 j e y (by simpa using he) hy
    rw [e1, e2]
    exact ⟨.str _, .bool _⟩⟩
  unfold Oper.wp
  rw [hrun, Oper.upon_skip]
  exact hkk _ _ _ _ ⟨rfl, rfl⟩ g1 (.junk _) g2
theorem OpOk.hasKeyB {T : TT} (hT : TOk P T) {o : Oper} {t kt et : TypeId} {m x : Operand} (ho : o.op = .lookup t m x false) {ρ : Operand → PV} {i ik ie : TI} (ht : T t = some i) (hd : i.desc = .map kt et) (hk : T kt = some ik) (hkd : ik.desc = .str) (he : T et = some ie) (hz : ie.zero = [.bool false]) (hed : ie.desc = .bool)
    {r : Nat} (hm : ρ m = .mapp r) {s : ByteArray} (hx : ρ x = .str s) {l : List ByteArray} (hσ : sset r l ∈ σ) {bb : Bool} (hb : (l.any fun y => decide (s = y)) = bb) : OpOk P o ρ σ (Ret (.bool bb) σ) := hb ▸ OpOk.hasKey hT ho ht hd hk hkd he hz hed hm hx hσ
theorem OpOk.addKeyB {T : TT} (hT : TOk P T) {o : Oper} {t kt et : TypeId} {m x v : Operand} (ho : o.op = .mapUpdate t m x v) {ρ : Operand → PV} {i ik : TI} (ht : T t = some i) (hd : i.desc = .map kt et) (hk : T kt = some ik) (hkd : ik.desc = .str)
    {r : Nat} (hm : ρ m = .mapp r) {s : ByteArray} (hx : ρ x = .str s) (hv : ρ v = .bool true) (pre : List Ent) {post : List Ent} {l : List ByteArray} (hσ : σ = pre ++ sset r l :: post) (hb : (l.any fun y => decide (s = y)) = false) : OpOk P o ρ σ (Ret .junk (pre ++ sset r (l ++ [s]) :: post)) := by
  have h := OpOk.addKey hT ho ht hd hk hkd hm hx hv pre hσ
  rwa [hb, if_neg (by decide)] at h
end
end Go.Mq
