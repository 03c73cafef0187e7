/- The abstract layer, part C: 'acalc' is what the machine does. -/
import Derived.Test.YtceoldiblphahaaGreatDoorMqB
set_option linter.unusedVariables false
set_option linter.unusedSimpArgs false
set_option linter.unusedSectionVars false
namespace Go.Mq
variable [GT]

def RepL (W : Own) (w : World) (vs : List Value) (cs : List PV) : Prop := vs.length = cs.length ∧ ∀ (j : Nat) (u : Value) (x : PV), vs[j]? = some u → cs[j]? = some x → Rep W w u x
theorem RepL.nil {W : Own} {w : World} : RepL W w [] [] := ⟨rfl, fun j u x h => by simp at h⟩
theorem RepL.cons {W : Own} {w : World} {v : Value} {vs : List Value} {c : PV} {cs : List PV} (h : Rep W w v c) (t : RepL W w vs cs) : RepL W w (v :: vs) (c :: cs) := by
  refine ⟨by simp [t.1], fun j u x hu hx => ?_⟩
  cases j with
  | zero => simp at hu hx; subst hu; subst hx; exact h
  | succ j => simp at hu hx; exact t.2 j u x hu hx
theorem RepL.append {W : Own} {w : World} {vs us : List Value} {cs ds : List PV} (h : RepL W w vs cs) (t : RepL W w us ds) : RepL W w (vs ++ us) (cs ++ ds) := by
  induction vs generalizing cs with
  | nil => cases cs with
    | nil => exact t
    | cons c cs => have := h.1; simp at this
  | cons v vs ih => cases cs with
    | nil => have := h.1; simp at this
    | cons c cs => exact RepL.cons (h.2 0 v c rfl rfl) (ih ⟨by have := h.1; simpa using this, fun j u x hu hx => h.2 (j + 1) u x (by simpa using hu) (by simpa using hx)⟩)
theorem RepL.take {W : Own} {w : World} {vs : List Value} {cs : List PV} (h : RepL W w vs cs) (n : Nat) : RepL W w (vs.take n) (cs.take n) := by
  refine ⟨by simp [h.1], fun j u x hu hx => ?_⟩
  rw [List.getElem?_take] at hu hx
  split at hu
  · rename_i hlt; rw [if_pos hlt] at hx; exact h.2 j u x hu hx
  · cases hu
theorem RepL.drop {W : Own} {w : World} {vs : List Value} {cs : List PV} (h : RepL W w vs cs) (n : Nat) : RepL W w (vs.drop n) (cs.drop n) := by
  refine ⟨by simp [h.1], fun j u x hu hx => ?_⟩
  rw [List.getElem?_drop] at hu hx
  exact h.2 _ u x hu hx
theorem RepL.ofConst (W : Own) (w : World) (vs : List Value) : RepL W w vs (vs.map ofConst) := by
  refine ⟨by simp, fun j u x hu hx => ?_⟩
  rw [List.getElem?_map, hu] at hx
  cases hx
  exact rep_ofConst W w u
theorem RepL.agg {W : Own} {w : World} {vs : List Value} {cs : List PV} (h : RepL W w vs cs) : Rep W w (.agg vs.toArray) (.agg cs) :=
  .agg (by simpa using h.1) (fun j u x hu hx => h.2 j u x (by simpa using hu) hx)
theorem Rep.cells {W : Own} {w : World} {v : Value} {x : PV} (h : Rep W w v x) (hs : x.solid = true) : RepL W w v.cells.toList x.cells := by
  have one : ∀ {v : Value} {x : PV}, v.cells = #[v] → x.cells = [x] → Rep W w v x → RepL W w v.cells.toList x.cells := fun h1 h2 h3 => by
    rw [h1, h2]; exact RepL.cons h3 RepL.nil
  cases h with
  | junk => simp [PV.solid] at hs
  | agg h r => exact ⟨by simpa [Value.cells, PV.cells] using h, fun j u x hu hx => r j u x (by simpa [Value.cells] using hu) hx⟩
  | bool b => exact one rfl rfl (.bool b)
  | int k n => exact one rfl rfl (.int k n)
  | str s => exact one rfl rfl (.str s)
  | nilp => exact one rfl rfl .nilp
  | ptr c hc hW hr => exact one rfl rfl (.ptr c hc hW hr)
  | loc b o => exact one rfl rfl (.loc b o)
  | slc0 a n cap hn => exact one rfl rfl (.slc0 a n cap hn)
  | slc c hn hc hW hr => exact one rfl rfl (.slc c hn hc hW hr)
  | nils => exact one rfl rfl .nils
  | own h => exact one (by cases h <;> rfl) rfl (.own h)
  | ful h => exact one rfl rfl (.ful h)
  | arr b o n cap hn => exact one rfl rfl (.arr b o n cap hn)
  | mapp r => exact one rfl rfl (.mapp r)
  | nilm => exact one rfl rfl .nilm
  | func h1 h2 r1 r2 => exact one rfl rfl (.func h1 h2 r1 r2)
  | nilf => exact one rfl rfl .nilf
  | nili => exact one rfl rfl .nili
  | iface h => exact one rfl rfl (.iface h)
  | tup h r => exact one rfl rfl (.tup h r)
  | any1 _ h => exact one (by first | (cases v <;> first | rfl | (simp [Value.oneCell'] at h))) rfl (.any1 _ h)

theorem fold_set (l : List Value) (off : Nat) : ∀ (k : Nat) (arr : Array Value), off + k + l.length ≤ arr.size →
    (l.zipIdx k).foldl (fun (cs : Array Value) (p : Value × Nat) => cs.setIfInBounds (off + p.2) p.1) arr = (arr.toList.take (off + k) ++ l ++ arr.toList.drop (off + k + l.length)).toArray := by
  induction l with
  | nil => intro k arr h; simp
  | cons v l ih =>
    intro k arr h
    simp only [List.zipIdx_cons, List.foldl_cons]
    simp only [List.length_cons] at h
    rw [ih (k + 1) _ (by simp; omega)]
    apply congrArg List.toArray
    apply List.ext_getElem?
    intro i
    simp only [Array.toList_setIfInBounds, List.getElem?_append, List.length_append, List.length_take, List.length_set, Array.length_toList, List.length_cons, List.getElem?_take, List.getElem?_drop, List.getElem?_set]
    have m1 : min (off + (k + 1)) arr.size = off + (k + 1) := by omega
    have m2 : min (off + k) arr.size = off + k := by omega
    simp only [m1, m2]
    by_cases h1 : i < off + k
    · rw [if_pos (by omega), if_pos (by omega), if_pos (by omega), if_neg (by omega), if_pos (by omega), if_pos (by omega), if_pos (by omega)]
    · by_cases h2 : i = off + k
      · subst h2
        rw [if_pos (by omega), if_pos (by omega), if_pos (by omega), if_pos rfl, if_pos (by omega), if_pos (by omega), if_neg (by omega)]
        simp
      · by_cases h3 : i < off + k + 1 + l.length
        · rw [if_pos (by omega), if_neg (by omega), if_pos (by omega), if_neg (by omega), show i - (off + k) = (i - (off + (k + 1))) + 1 by omega, List.getElem?_cons_succ]
        · rw [if_neg (by omega), if_neg (by omega), if_neg (by omega)]
          congr 1; omega

theorem fill_sound {W : Own} {w : World} {place : Nat → Option (Nat × Nat)} : ∀ (ps : List (Nat × Value)) (qs : List (Nat × PV)) (arr : Array Value) (cs out : List PV), RepL W w arr.toList cs →
    ps.map (·.1) = qs.map (·.1) → (∀ (j : Nat) (p : Nat × Value) (q : Nat × PV), ps[j]? = some p → qs[j]? = some q → Rep W w p.2 q.2) → afill place cs qs = some out →
    ∃ arr', Instr.fill place arr ps = some arr' ∧ RepL W w arr'.toList out
  | [], [], arr, cs, out, hr, _, _, h => by simp only [afill] at h; cases h; exact ⟨arr, rfl, hr⟩
  | [], _ :: _, _, _, _, _, h, _, _ => by simp at h
  | _ :: _, [], _, _, _, _, h, _, _ => by simp at h
  | (i, v) :: ps, (i', x) :: qs, arr, cs, out, hr, hm, hp, h => by
    simp only [List.map_cons, List.cons.injEq] at hm
    obtain ⟨rfl, hm⟩ := hm
    have hv : Rep W w v x := hp 0 _ _ rfl rfl
    simp only [afill] at h
    simp only [Instr.fill]
    cases hpl : place i with
    | none => rw [hpl] at h; cases h
    | some os =>
      obtain ⟨off, size⟩ := os
      rw [hpl] at h
      simp only at h
      split at h
      · rename_i hc
        obtain ⟨hc1, hc2, hc3⟩ := hc
        have hvc := hv.cells hc3
        have e1 : v.cells.size = size := by have := hvc.1; simp at this; omega
        have e2 : arr.size = cs.length := by have := hr.1; simpa using this
        simp only [e1, bne_self_eq_false, Bool.false_or, decide_eq_true_eq]
        rw [if_neg (by simp; omega)]
        have hf : (v.cells.zipIdx.foldl (fun (cs : Array Value) (p : Value × Nat) => cs.setIfInBounds (off + p.2) p.1) arr) = (arr.toList.take off ++ v.cells.toList ++ arr.toList.drop (off + size)).toArray := by
          rw [← Array.foldl_toList, Array.toList_zipIdx]
          have := fold_set v.cells.toList off 0 arr (by simp; omega)
          simpa [e1] using this
        have := fill_sound ps qs (arr.toList.take off ++ v.cells.toList ++ arr.toList.drop (off + size)).toArray _ out (by simpa using ((hr.take off).append hvc).append (hr.drop (off + size))) hm (fun j p q h1 h2 => hp (j + 1) p q (by simpa using h1) (by simpa using h2)) h
        obtain ⟨arr', ha, hb⟩ := this
        refine ⟨arr', ?_, hb⟩
        rw [← ha, ← hf]
      · cases h

theorem run_mapM {α β : Type} {P : Program} {w : World} {f : α → Sem β} {g : α → β} (l : List α) (h : ∀ x ∈ l, (f x).run P w = .ok (g x) w) : (l.mapM f).run P w = .ok (l.map g) w := by
  induction l with
  | nil => simp
  | cons a l ih =>
    simp [List.mapM_cons, h a List.mem_cons_self, ih (fun x hx => h x (List.mem_cons_of_mem _ hx))]
theorem run_mapMA {α β : Type} {P : Program} {w : World} {f : α → Sem β} {g : α → β} (l : Array α) (h : ∀ x ∈ l.toList, (f x).run P w = .ok (g x) w) : (l.mapM f).run P w = .ok (l.map g) w := by
  rw [Array.mapM_eq_mapM_toList]
  simp [run_mapM l.toList h]
  apply Array.ext'; simp

end Go.Mq
