/- The abstract layer, part D: 'acalc' is what the machine does. -/
import Derived.Test.YtceoldiblphahaaGreatDoorMqC
import Derived.Laws.Strings
set_option linter.unusedVariables false
set_option linter.unusedSimpArgs false
set_option linter.unusedSectionVars false
namespace Go.Mq
variable [GT]

/-- The operation gives a value that stands for r; nothing owned is touched. -/
def Gives (P : Program) (m : Sem Next) (W : Own) (w : World) (r : PV) : Prop := ∃ v w', m.run P w = .ok (.value v) w' ∧ Rep W w' v r ∧ Quiet w w'
theorem Gives.same {P : Program} {m : Sem Next} {W : Own} {w : World} {r : PV} {v : Value} (h : m.run P w = .ok (.value v) w) (hr : Rep W w v r) : Gives P m W w r := ⟨v, w, h, hr, Quiet.refl w⟩

theorem bytes_beq (a b : ByteArray) : (a.toList == b.toList) = decide (a = b) := by
  rw [ByteArray.toList_eq, ByteArray.toList_eq]
  by_cases h : a = b
  · subst h; simp
  · have h2 : ¬ a.data = b.data := fun e => h (by cases a; cases b; simp only at e; rw [e])
    simp [h, h2]

section
variable {P : Program} {T : TT} (hT : TOk P T) {W : Own} {w : World} (hW : ∀ b j, W b j → b < w.heap.size)

theorem bin_int {op : BinOp} {t : TypeId} {k k' : IntKind} {a b : Int} {r : PV} (h : abin op (.int k a) (.int k' b) = some r) : ∃ v, (binOp op t (.int k a) (.int k' b)).run P w = .ok v w ∧ Rep W w v r := by
  simp only [abin] at h
  split at h
  · rename_i hk; subst hk
    cases op <;> simp only [acmp, Option.some.injEq, reduceCtorEq] at h <;> subst h <;> first
      | exact ⟨.int k _, by simp [binOp, Op.intArith, Op.intCmp], .int _ _⟩
      | exact ⟨.bool (decide (a = b)), by simp only [binOp, Op.intCmp, ne_eq, not_true_eq_false, ↓reduceIte, Sem.run_pure]; rfl, .bool _⟩
      | exact ⟨.bool (decide (a ≠ b)), by simp only [binOp, Op.intCmp, ne_eq, not_true_eq_false, ↓reduceIte, Sem.run_pure]; by_cases h : a = b <;> simp [h], .bool _⟩
      | exact ⟨.bool _, by simp only [binOp, Op.intCmp, ne_eq, not_true_eq_false, ↓reduceIte, Sem.run_pure], .bool _⟩
  · cases h
theorem bin_str {op : BinOp} {t : TypeId} {a b : ByteArray} {r : PV} (h : abin op (.str a) (.str b) = some r) : ∃ v, (binOp op t (.string a) (.string b)).run P w = .ok v w ∧ Rep W w v r := by
  simp only [abin] at h
  cases op <;> simp only [Option.some.injEq, reduceCtorEq] at h <;> subst h
  · exact ⟨.bool (decide (a = b)), by simp only [binOp, Op.stringOp, bytes_beq, Sem.run_pure], .bool _⟩
  · exact ⟨.bool (decide (a ≠ b)), by simp only [binOp, Op.stringOp, bytes_beq, Sem.run_pure, decide_not], .bool _⟩

theorem equalIn_bool {t : TypeId} (d : Nat) (h : P.underlying t = some .bool) (a b : Bool) : (Op.equalIn (d + 1) t (.bool a) (.bool b)).run P w = .ok (a == b) w := by
  simp [Op.equalIn, run_underlying' h]
theorem equal_bool {t : TypeId} (h : P.underlying t = some .bool) (a b : Bool) : (Op.equal t (.bool a) (.bool b)).run P w = .ok (a == b) w := equalIn_bool 9999 h a b
theorem equalIn_nil {t e : TypeId} (d : Nat) (h : P.underlying t = some (.pointer e)) (a : Option Addr) : (Op.equalIn (d + 1) t (.pointer a) (.pointer none)).run P w = .ok a.isNone w := by
  cases a <;> simp [Op.equalIn, run_underlying' h]
theorem equal_nil {t e : TypeId} (h : P.underlying t = some (.pointer e)) (a : Option Addr) : (Op.equal t (.pointer a) (.pointer none)).run P w = .ok a.isNone w := equalIn_nil 9999 h a

theorem rep_int {v : Value} {k : IntKind} {n : Int} (h : Rep W w v (.int k n)) : v = .int k n := by cases h; rfl
theorem rep_bool {v : Value} {b : Bool} (h : Rep W w v (.bool b)) : v = .bool b := by cases h; rfl
theorem rep_str {v : Value} {s : ByteArray} (h : Rep W w v (.str s)) : v = .string s := by cases h; rfl
theorem rep_ptr {v : Value} {cs : List PV} (h : Rep W w v (.ptr cs)) : ∃ (b off : Nat) (c : Nat → Value), v = .pointer (some ⟨b, off, none⟩) ∧ (∀ j, j < cs.length → w.cell? ⟨b, off + j, none⟩ = some (c j)) ∧ (∀ j, j < cs.length → ¬ W b (off + j)) ∧ ∀ (j : Nat) (x : PV), cs[j]? = some x → Rep W w (c j) x := by
  cases h with
  | ptr c h1 h2 h3 => exact ⟨_, _, c, rfl, h1, h2, h3⟩
theorem rep_loc {v : Value} {b o : Nat} (h : Rep W w v (.loc b o)) : v = .pointer (some ⟨b, o, none⟩) := by cases h; rfl
theorem rep_slc {v : Value} {cs : List PV} {n : Nat} (h : Rep W w v (.slc cs n)) : ∃ (a : Option Addr) (cap : Nat), v = .slice a n cap ∧ n ≤ cap ∧ (cs ≠ [] → ∃ (b off : Nat) (c : Nat → Value), a = some ⟨b, off, none⟩ ∧ (∀ j, j < cs.length → w.cell? ⟨b, off + j, none⟩ = some (c j)) ∧ (∀ j, j < cs.length → ¬ W b (off + j)) ∧ ∀ (j : Nat) (x : PV), cs[j]? = some x → Rep W w (c j) x) := by
  cases h with
  | slc0 a _ cap hn => exact ⟨a, cap, rfl, hn, fun h => absurd rfl h⟩
  | slc c hn h1 h2 h3 => exact ⟨_, _, rfl, hn, fun _ => ⟨_, _, c, rfl, h1, h2, h3⟩⟩
theorem rep_own {v u : Value} {cs : List PV} {n : Nat} (h : Rep W w v (.own u cs n)) : v = u ∧ Rep W w v (.slc cs n) := by cases h with | own h => exact ⟨rfl, h⟩
theorem rep_ful {v : Value} {cs : List PV} {n : Nat} (h : Rep W w v (.ful cs n)) : (∃ a, v = .slice a n n) ∧ Rep W w v (.slc cs n) := by cases h with | ful h => exact ⟨⟨_, rfl⟩, h⟩
theorem rep_arr {v : Value} {b o n : Nat} (h : Rep W w v (.arr b o n)) : ∃ cap, v = .slice (some ⟨b, o, none⟩) n cap ∧ n ≤ cap := by cases h with | arr _ _ _ cap hn => exact ⟨cap, rfl, hn⟩
theorem rep_nils {v : Value} (h : Rep W w v .nils) : v = .slice none 0 0 := by cases h; rfl
theorem rep_agg {v : Value} {cs : List PV} (h : Rep W w v (.agg cs)) : ∃ vs : Array Value, v = .agg vs ∧ RepL W w vs.toList cs := by
  cases h with | agg h r => exact ⟨_, rfl, by simpa using h, fun j u x hu hx => r j u x (by simpa using hu) hx⟩
theorem rep_tup {v : Value} {cs : List PV} (h : Rep W w v (.tup cs)) : ∃ vs : Array Value, v = .tuple vs ∧ RepL W w vs.toList cs := by
  cases h with | tup h r => exact ⟨_, rfl, by simpa using h, fun j u x hu hx => r j u x (by simpa using hu) hx⟩
theorem rep_func {v : Value} {f : FuncId} {a b : List PV} (h : Rep W w v (.func f a b)) : ∃ vf vc : Array Value, v = .func (.func f) vf vc ∧ RepL W w vf.toList a ∧ RepL W w vc.toList b := by
  cases h with | func h1 h2 r1 r2 => exact ⟨_, _, rfl, ⟨by simpa using h1, fun j u x hu hx => r1 j u x (by simpa using hu) hx⟩, ⟨by simpa using h2, fun j u x hu hx => r2 j u x (by simpa using hu) hx⟩⟩
theorem rep_nilp {v : Value} (h : Rep W w v .nilp) : v = .pointer none := by cases h; rfl

theorem guard_quiet {op : BinOp} {t : TypeId} {x y : Operand} {a b : Value} (h : (∀ c, a ≠ .agg c) ∧ a ≠ .nilIface) : (eqGuard op t x y a b).run P w = .ok () w := by
  cases op <;> cases a <;> first
    | rfl
    | exact absurd rfl h.2
    | exact absurd rfl (h.1 _)

include hT hW
set_option maxHeartbeats 1000000 in
theorem acalc_sound {o : Oper} {ev : Operand → Value} {ρ : Operand → PV} (hr : ∀ x, x ∈ o.op.operands → Rep W w (ev x) (ρ x)) {r : PV} (h : acalc T o.op ρ = some r) : Gives P (execOp ev o) W w r := by
  obtain ⟨dst, op, type, pos, after, guard⟩ := o
  cases op <;> simp only [acalc, reduceCtorEq] at h
  case move x => cases h; exact .same (by simp [execOp]) (hr x (by simp [Op.operands]))
  case assign x => cases h; exact .same (by simp [execOp]) (hr x (by simp [Op.operands]))
  case pick c a b =>
    have hc := hr c (by simp [Op.operands])
    have ha := hr a (by simp [Op.operands])
    have hb := hr b (by simp [Op.operands])
    split at h
    · rename_i x hx
      cases h
      rw [hx] at hc
      have := rep_bool hc
      cases x
      · exact .same (by simp [execOp, this, asBool]) hb
      · exact .same (by simp [execOp, this, asBool]) ha
    · cases h
  case nilCheck x =>
    have hx := hr x (by simp [Op.operands])
    split at h
    · rename_i cs hc
      cases h
      rw [hc] at hx
      obtain ⟨b, off, c, hv, _⟩ := rep_ptr hx
      refine .same (v := ev x) ?_ hx
      rw [hv]; simp [execOp, hv]
    · rename_i b o hc
      cases h
      rw [hc] at hx
      have hv := rep_loc hx
      refine .same (v := ev x) ?_ hx
      rw [hv]; simp [execOp, hv]
    · cases h
  case binOp op t x y yt =>
    have hx := hr x (by simp [Op.operands])
    have hy := hr y (by simp [Op.operands])
    have fin : ∀ {u v : Value} {r : PV}, ev x = u → ev y = v → ((∀ c, u ≠ .agg c) ∧ u ≠ .nilIface) → (∃ z, (binOp op t u v).run P w = .ok z w ∧ Rep W w z r) → Gives P (execOp ev ⟨dst, .binOp op t x y yt, type, pos, after, guard⟩) W w r := by
      intro u v r hu hv hg ⟨z, hz, hzr⟩
      refine .same (v := z) ?_ hzr
      simp [execOp, hu, hv, guard_quiet hg, hz]
    split at h
    · rename_i k a k' b h1 h2
      rw [h1] at hx; rw [h2] at hy
      exact fin (rep_int hx) (rep_int hy) (by simp) (bin_int h)
    · rename_i a b h1 h2
      rw [h1] at hx; rw [h2] at hy
      exact fin (rep_str hx) (rep_str hy) (by simp) (bin_str h)
    · rename_i a b h1 h2
      rw [h1] at hx; rw [h2] at hy
      split at h
      · rename_i ht
        have hu := tt_und hT ht
        simp only [DescOk] at hu
        refine fin (rep_bool hx) (rep_bool hy) (by simp) ?_
        simp only [abin] at h
        cases op <;> simp only [Option.some.injEq, reduceCtorEq] at h <;> subst h
        · exact ⟨.bool _, by simp [binOp, equal_bool hu], .bool _⟩
        · exact ⟨.bool _, by simp [binOp, equal_bool hu], .bool _⟩
      · cases h
    · rename_i h1 h2
      rw [h1] at hx; rw [h2] at hy
      split at h
      · rename_i ht
        obtain ⟨e, hu⟩ := tt_und hT ht
        refine fin (rep_nilp hx) (rep_nilp hy) (by simp) ?_
        simp only [abin] at h
        cases op <;> simp only [Option.some.injEq, reduceCtorEq] at h <;> subst h
        · exact ⟨.bool true, by simp [binOp, equal_nil hu], .bool _⟩
        · exact ⟨.bool false, by simp [binOp, equal_nil hu], .bool _⟩
      · cases h
    · rename_i cs h1 h2
      rw [h1] at hx; rw [h2] at hy
      split at h
      · rename_i ht
        obtain ⟨e, hu⟩ := tt_und hT ht
        obtain ⟨A, hA⟩ : ∃ A, ev x = .pointer (some A) := by
          generalize ev x = vx at hx; cases hx; exact ⟨_, rfl⟩
        refine fin hA (rep_nilp hy) (by simp) ?_
        simp only [abin] at h
        cases op <;> simp only [Option.some.injEq, reduceCtorEq] at h <;> subst h
        · exact ⟨.bool false, by simp [binOp, equal_nil hu], .bool _⟩
        · exact ⟨.bool true, by simp [binOp, equal_nil hu], .bool _⟩
      · cases h
    · rename_i b o h1 h2
      rw [h1] at hx; rw [h2] at hy
      split at h
      · rename_i ht
        obtain ⟨e, hu⟩ := tt_und hT ht
        obtain ⟨A, hA⟩ : ∃ A, ev x = .pointer (some A) := by
          generalize ev x = vx at hx; cases hx; exact ⟨_, rfl⟩
        refine fin hA (rep_nilp hy) (by simp) ?_
        simp only [abin] at h
        cases op <;> simp only [Option.some.injEq, reduceCtorEq] at h <;> subst h
        · exact ⟨.bool false, by simp [binOp, equal_nil hu], .bool _⟩
        · exact ⟨.bool true, by simp [binOp, equal_nil hu], .bool _⟩
      · cases h
    · cases h
  case unOp op t x =>
    have hx := hr x (by simp [Op.operands])
    cases op <;> simp only [reduceCtorEq] at h
    · split at h
      · rename_i k n h1
        rw [h1] at hx
        cases h
        exact .same (v := .int k _) (by simp [execOp, rep_int hx, Op.unary, Op.intArith]) (.int _ _)
      · cases h
    · split at h
      · rename_i b h1
        rw [h1] at hx
        cases h
        exact .same (v := .bool _) (by simp [execOp, rep_bool hx, Op.unary]) (.bool _)
      · cases h
  case convert src dst x =>
    have hx := hr x (by simp [Op.operands])
    split at h
    · rename_i h1 h2 h3
      rw [h3] at hx
      cases h
      have hd := tt_und hT h2
      simp only [DescOk] at hd
      have hs : ∃ d, P.underlying src = some d := by
        have := tt_und hT h1
        unfold DescOk at this
        split at this
        all_goals first
          | exact ⟨_, this⟩
          | (obtain ⟨e, he⟩ := this; exact ⟨_, he⟩)
          | (obtain ⟨F, hF, _⟩ := this; exact ⟨_, hF⟩)
          | (obtain ⟨a, b, c, he⟩ := this; exact ⟨_, he⟩)
      obtain ⟨d, hs⟩ := hs
      exact .same (v := .int _ _) (by simp [execOp, rep_int hx, convert, run_underlying' hs, run_underlying' hd, Conv.intToInt]) (.int _ _)
    · rename_i h1 h2 h3
      rw [h3] at hx
      cases h
      have hd := tt_und hT h2
      simp only [DescOk] at hd
      have hs : ∃ d, P.underlying src = some d := by
        have := tt_und hT h1
        unfold DescOk at this
        split at this
        all_goals first
          | exact ⟨_, this⟩
          | (obtain ⟨e, he⟩ := this; exact ⟨_, he⟩)
          | (obtain ⟨F, hF, _⟩ := this; exact ⟨_, hF⟩)
          | (obtain ⟨a, b, c, he⟩ := this; exact ⟨_, he⟩)
      obtain ⟨d, hs⟩ := hs
      exact .same (v := .string _) (by simp [execOp, rep_str hx, convert, run_underlying' hs, run_underlying' hd]) (.str _)
    · cases h
  case makeFunc fn first captured =>
    cases fn <;> simp only [reduceCtorEq] at h
    rename_i f
    cases h
    refine .same (v := .func (.func f) (first.map ev) (captured.map ev)) (by simp [execOp, Instr.makeFunc]) (.func (by simp) (by simp) ?_ ?_)
    · intro j u x hu hx
      simp only [Array.getElem?_map, List.getElem?_map, Array.getElem?_toList, Option.map_eq_some_iff] at hu hx
      obtain ⟨y, hy, rfl⟩ := hu
      obtain ⟨y', hy', rfl⟩ := hx
      rw [hy] at hy'; cases hy'
      exact hr y (by simp [Op.operands]; exact .inl (Array.mem_of_getElem? hy))
    · intro j u x hu hx
      simp only [Array.getElem?_map, List.getElem?_map, Array.getElem?_toList, Option.map_eq_some_iff] at hu hx
      obtain ⟨y, hy, rfl⟩ := hu
      obtain ⟨y', hy', rfl⟩ := hx
      rw [hy] at hy'; cases hy'
      exact hr y (by simp [Op.operands]; exact .inr (Array.mem_of_getElem? hy))
  case extract t ix =>
    have hx := hr t (by simp [Op.operands])
    split at h
    · rename_i vs h1
      rw [h1] at hx
      obtain ⟨us, hv, hl⟩ := rep_tup hx
      have hlt : ix < us.toList.length := by rw [hl.1]; exact (List.getElem?_eq_some_iff.1 h).1
      have hu : us[ix]? = some us[ix] := by simp [show ix < us.size by simpa using hlt]
      refine .same (v := us[ix]) ?_ (hl.2 ix _ r (by simp) h)
      simp [execOp, hv, Instr.extract, hu]
    · cases h
  case field t x f =>
    have hx := hr x (by simp [Op.operands])
    split at h
    · rename_i fs _ _ _ cs ht h1
      rw [h1] at hx
      obtain ⟨us, hv, hl⟩ := rep_agg hx
      obtain ⟨F, hu, hF, hne⟩ := tt_und hT ht
      split at h
      · rename_i off sz ft hf
        have hFf : F.toList[f]?.map (fun f => (f.offset, (P.info? f.type).map (·.size), f.type)) = some (off, some sz, ft) := by
          rw [← List.getElem?_map, hF, List.getElem?_map, hf]; rfl
        obtain ⟨fl, hfl, hfe⟩ := Option.map_eq_some_iff.1 hFf
        simp only [Prod.mk.injEq] at hfe
        obtain ⟨ho, hsz, hty⟩ := hfe
        have hfl' : F[f]? = some fl := by simpa using hfl
        split at h
        · rename_i i hi
          have ha := tt_agg hT hi w
          have hs := tt_size hT hi w
          obtain ⟨⟨info, hin, hin2, _⟩, _⟩ := hT ft i hi
          have hsz' : i.size = sz := by
            rw [hty, hin] at hsz; simp at hsz; omega
          split at h
          · rename_i hd
            rw [hd] at ha
            split at h
            · rename_i hle
              cases h
              refine .same (v := .agg (us.extract off (off + sz))) ?_ ?_
              · simp [execOp, Instr.field, run_underlying' hu, hfl', hv, asAgg, part, hty, ha, hs, hsz', ho]
              · have := ((hl.drop off).take sz).agg
                have e : ((us.toList.drop off).take sz).toArray = us.extract off (off + sz) := by
                  apply Array.ext'
                  simp [Array.toList_extract, List.extract_eq_take_drop]
                rw [e] at this
                exact this
            · cases h
          · rename_i hd
            rw [show i.desc.isStruct = false by simpa using hd] at ha
            have hlt : off < us.toList.length := by rw [hl.1]; exact (List.getElem?_eq_some_iff.1 h).1
            have huo : us[off]? = some us[off] := by simp [show off < us.size by simpa using hlt]
            refine .same (v := us[off]) ?_ (hl.2 off _ r (by simp) h)
            simp [execOp, Instr.field, run_underlying' hu, hfl', hv, asAgg, part, hty, ha, huo, ho]
        · cases h
      · cases h
    · cases h
  case fieldAddr t x f =>
    have hx := hr x (by simp [Op.operands])
    split at h
    · rename_i fs _ _ _ ht
      obtain ⟨F, hu, hF, hne⟩ := tt_und hT ht
      split at h
      · rename_i off sz ft hf
        have hFf : F.toList[f]?.map (fun f => (f.offset, (P.info? f.type).map (·.size), f.type)) = some (off, some sz, ft) := by
          rw [← List.getElem?_map, hF, List.getElem?_map, hf]; rfl
        obtain ⟨fl, hfl, hfe⟩ := Option.map_eq_some_iff.1 hFf
        simp only [Prod.mk.injEq] at hfe
        obtain ⟨ho, hsz, hty⟩ := hfe
        have hfl' : F[f]? = some fl := by simpa using hfl
        have hsz0 : sz ≠ 0 := hne _ (List.mem_of_getElem? hf)
        have hplace : ∀ b o, (fieldPlace ⟨b, o, none⟩ fl).run P w = .ok ⟨b, o + off, none⟩ w := fun b o => by
          obtain ⟨info, hin, hin2⟩ := Option.map_eq_some_iff.1 hsz
          simp [fieldPlace, sizeOf, typeInfo, hin, hin2, hsz0, add_plain, ho]
        split at h
        · rename_i cs h1
          rw [h1] at hx
          cases h
          obtain ⟨b, o, c, hv, hc1, hc2, hc3⟩ := rep_ptr hx
          refine .same (v := .pointer (some ⟨b, o + off, none⟩)) (by simp [execOp, hv, Instr.fieldAt, run_underlying' hu, hfl', Instr.sureAddr, hplace]) ?_
          refine .ptr (fun j => c (off + j)) (fun j hj => ?_) (fun j hj => ?_) (fun j y hy => ?_)
          · simp at hj; rw [Nat.add_assoc]; exact hc1 _ (by omega)
          · simp at hj; rw [Nat.add_assoc]; exact hc2 _ (by omega)
          · rw [List.getElem?_drop] at hy; exact hc3 _ y hy
        · rename_i b o h1
          rw [h1] at hx
          cases h
          have hv := rep_loc hx
          exact .same (v := .pointer (some ⟨b, o + off, none⟩)) (by simp [execOp, hv, Instr.fieldAt, run_underlying' hu, hfl', Instr.sureAddr, hplace]) (.loc _ _)
        · cases h
      · cases h
    · cases h
  case load t x =>
    have hx := hr x (by simp [Op.operands])
    split at h
    · rename_i i cs ht h1
      rw [h1] at hx
      obtain ⟨b, o, c, hv, hc1, hc2, hc3⟩ := rep_ptr hx
      obtain ⟨v, hv2, hrv⟩ := loadVar_ptr hT ht hc1 hc3 h
      exact .same (v := v) (by simp [execOp, hv, Instr.loadAt, Instr.sureAddr, hv2]) hrv
    · cases h
  case build t parts =>
    split at h
    · rename_i fs _ _ z ht
      obtain ⟨F, hu, hF, hne⟩ := tt_und hT ht
      obtain ⟨zv, hz1, hz2, hz3, hz4⟩ := tt_zero hT ht
      simp only at hz2
      obtain ⟨out, hout, rfl⟩ := Option.map_eq_some_iff.1 h
      have hFf : ∀ i : Nat, (F[i]?.map fun f : Field => (f.offset, ((P.info? f.type).map (·.size)).getD 0)) = (fs[i]?).map (fun x : Nat × Nat × TypeId => (x.1, x.2.1)) := fun i => by
        have h1 : (F.toList.map (fun f => (f.offset, (P.info? f.type).map (·.size), f.type)))[i]? = (fs.map (fun x => (x.1, some x.2.1, x.2.2)))[i]? := by rw [hF]
        rw [List.getElem?_map, List.getElem?_map] at h1
        have h2 := congrArg (Option.map fun q : Nat × Option Nat × TypeId => (q.1, q.2.1.getD 0)) h1
        simpa [Option.map_map, Function.comp_def] using h2
      have hsome : ∀ f ∈ F.toList, (sizeOf f.type).run P w = .ok (((P.info? f.type).map (·.size)).getD 0) w := fun f hf => by
        have hm : (f.offset, (P.info? f.type).map (·.size), f.type) ∈ fs.map (fun x => (x.1, some x.2.1, x.2.2)) := by
          rw [← hF]; exact List.mem_map_of_mem hf
        obtain ⟨x, _, hx⟩ := List.mem_map.1 hm
        simp only [Prod.mk.injEq] at hx
        obtain ⟨info, hin, hin2⟩ := Option.map_eq_some_iff.1 hx.2.1.symm
        simp [sizeOf, typeInfo, hin]
      have hmap := run_mapMA (P := P) (w := w) (f := fun f : Field => do pure (f.offset, ← sizeOf f.type)) (g := fun f => (f.offset, ((P.info? f.type).map (·.size)).getD 0)) F (fun f hf => by simp [hsome f hf])
      obtain ⟨arr, ha, hb⟩ := fill_sound (W := W) (w := w) (place := fun i => (fs[i]?).map fun x => (x.1, x.2.1)) (parts.toList.map fun p => (p.1, ev p.2)) _ zv.cells z out (by rw [← hz2]; exact RepL.ofConst W w _) (by simp [Function.comp_def])
        (fun j p q hp hq => by
          simp only [List.getElem?_map, Option.map_eq_some_iff] at hp hq
          obtain ⟨y, hy, rfl⟩ := hp
          obtain ⟨y', hy', rfl⟩ := hq
          rw [hy] at hy'; cases hy'
          exact hr _ (by simp only [Op.operands, List.mem_toArray, List.mem_map]; exact ⟨y, List.mem_of_getElem? hy, rfl⟩)) hout
      refine .same (v := .agg arr) ?_ (by have := hb.agg; simpa using this)
      have hpl : (fun i : Nat => (F.map fun f : Field => (f.offset, ((P.info? f.type).map (·.size)).getD 0))[i]?) = (fun i : Nat => (fs[i]?).map fun x : Nat × Nat × TypeId => (x.1, x.2.1)) := by
        funext i; rw [Array.getElem?_map]; exact hFf i
      simp only [execOp, Instr.build, Sem.run_bind, hz1, Result.andThen_ok, run_underlying' hu, hmap, hpl]
      simp [ha]
    · cases h
  case buildSlice t n parts =>
    split at h
    · rename_i e _ _ _ ht
      have hu := tt_und hT ht
      simp only [DescOk] at hu
      split at h
      · rename_i i hi
        split at h
        · rename_i hle
          obtain ⟨hle, hne⟩ := hle
          obtain ⟨out, hout, rfl⟩ := Option.map_eq_some_iff.1 h
          obtain ⟨zv, hz1, hz2, hz3, hz4⟩ := tt_zero hT hi
          have hzl : i.zero.length = i.size := (hT e i hi).2.2
          have hs := tt_size hT hi w
          have hzs : zv.cells.size = i.size := by rw [← hzl, ← hz2]; simp
          have hrl : RepL W w ((Array.range (n * i.size)).map (zv.cells[· % zv.cells.size]!)).toList (zerosOf i.zero n) := by
            refine ⟨by simp [zerosOf_len, hzl], fun j u x hu hx => ?_⟩
            have hj : j < n * i.size := by
              have := (List.getElem?_eq_some_iff.1 hx).1
              rwa [zerosOf_len, hzl] at this
            have hm : j % i.size < i.size := Nat.mod_lt _ (by omega)
            rw [zerosOf_get _ _ _ (by rw [hzl]; exact hj), hzl] at hx
            simp [hj] at hu
            rw [hzs] at hu
            have h1 : zv.cells.toList[j % i.size]? = some u := by
              rw [← hu]; simp [hzs, hm]
            exact (RepL.ofConst W w zv.cells.toList).2 (j % i.size) u x h1 (by rw [hz2]; exact hx)
          obtain ⟨arr, ha, hb⟩ := fill_sound (W := W) (w := w) (place := fun j => some (j * i.size, i.size)) (parts.toList.map fun p => (p.1, ev p.2)) _ _ _ out hrl (by simp [Function.comp_def])
            (fun j p q hp hq => by
              simp only [List.getElem?_map, Option.map_eq_some_iff] at hp hq
              obtain ⟨y, hy, rfl⟩ := hp
              obtain ⟨y', hy', rfl⟩ := hq
              rw [hy] at hy'; cases hy'
              exact hr _ (by simp only [Op.operands, List.mem_toArray, List.mem_map]; exact ⟨y, List.mem_of_getElem? hy, rfl⟩)) hout
          have hsl : arr.size = out.length := by simpa using hb.1
          refine ⟨.slice (some ⟨w.heap.size, 0, none⟩) n n, { w with heap := w.heap.push (.cells arr e) }, ?_, ?_, Quiet.alloc _ _⟩
          · by_cases hn : n = 0
            · subst hn
              have e0 : ∀ f : Nat → Value, (Array.range 0).map f = #[] := fun f => by simp
              have h0 : Instr.fill (fun j => some (j * i.size, i.size)) #[] (parts.toList.map fun x => (x.1, ev x.2)) = some arr := by
                rw [← ha, Nat.zero_mul, e0]
              simp [execOp, Instr.buildSlice, run_underlying' hu, hs, h0, e0, newRow]
            · have hne' : n * i.size ≠ 0 := Nat.mul_ne_zero hn hne
              simp only [execOp, Instr.buildSlice, Sem.run_bind, run_underlying' hu, Result.andThen_ok, hs]
              rw [if_neg (by omega)]
              simp only [pure_bind]
              rw [if_neg hne']
              simp [hz1, ha, newRow]
          · refine .ful (.slc (fun j => arr.getD j undef) (Nat.le_refl _) (fun j hj => ?_) (fun j _ hw => absurd (hW _ _ hw) (Nat.lt_irrefl _)) (fun j x hx => ?_))
            · have : j < arr.size := by omega
              simp [World.cell?, this]
            · have hj : j < arr.size := by have := (List.getElem?_eq_some_iff.1 hx).1; omega
              refine (Quiet.alloc w _).rep (hb.2 j _ x ?_ hx)
              simp [hj]
        · cases h
      · cases h
    · cases h
end
end Go.Mq
