/- The abstract layer, part G: appends; operations with bounds; strings; iterators. -/
import Derived.Test.YtceoldiblphahaaGreatDoorMqF
set_option linter.unusedVariables false
set_option linter.unusedSimpArgs false
set_option linter.unusedSectionVars false
namespace Go.Mq
variable [GT]

section
variable {P : Program} {σ : List Ent}

/-- What stands in a slice (or text) that is appended. -/
def srcOf : PV → Option (List PV × Nat)
  | .slc ys k => some (ys, k)
  | .own _ ys k => some (ys, k)
  | .ful ys k => some (ys, k)
  | .nils => some ([], 0)
  | .str s => some (s.data.toList.map fun b => .int .u8 b.toNat, s.size)
  | _ => none

def SrcOk (itx : TI) (size : Nat) : PV → Prop
  | .str _ => itx.desc = .str ∧ size = 1
  | _ => ∃ e, itx.desc = .slice e

theorem rep_slcs {W : Own} {w : World} {v : Value} {x : PV} {ys : List PV} {k : Nat} (h : Rep W w v x) (hx : (∃ u, x = .own u ys k) ∨ x = .slc ys k ∨ x = .ful ys k ∨ (x = .nils ∧ ys = [] ∧ k = 0)) : Rep W w v (.slc ys k) := by
  rcases hx with ⟨u, rfl⟩ | rfl | rfl | ⟨rfl, rfl, rfl⟩
  · exact (rep_own h).2
  · exact h
  · exact (rep_ful h).2
  · rw [rep_nils h]; exact .slc0 none 0 0 (Nat.le_refl _)

theorem src_run {T : TT} (hT : TOk P T) {W : Own} {w : World} {tx : TypeId} {itx : TI} (htx : T tx = some itx) {v : Value} {x : PV} (h : Rep W w v x) {ys : List PV} {k size : Nat} (hs : srcOf x = some (ys, k)) (hl : ys.length = k * size) (ho : ys.all PV.one = true)
    (hd : SrcOk itx size x) : ∃ news, Src P size tx v k news w ∧ RepL W w news ys := by
  have hu := tt_und hT htx
  have key : ∀ (hx : (∃ u, x = .own u ys k) ∨ x = .slc ys k ∨ x = .ful ys k ∨ (x = .nils ∧ ys = [] ∧ k = 0)), (∃ e, itx.desc = .slice e) → ∃ news, Src P size tx v k news w ∧ RepL W w news ys := fun hx ⟨e, he⟩ => by
    rw [he] at hu
    simp only [DescOk] at hu
    obtain ⟨A, cap, hv, hn, hc⟩ := rep_slc (rep_slcs h hx)
    subst hv
    by_cases hys : ys = []
    · subst hys
      have h0 : k * size = 0 := by simpa using hl.symm
      refine ⟨[], ⟨.inl ⟨e, hu⟩, fun _ => rfl, ?_, ?_, by simp [h0], fun _ h => by cases h⟩, RepL.nil⟩
      · cases A <;> simp [Builtin.firstCells, h0, loadCells, loadCellsFrom]
      · cases A <;> simp [Builtin.firstCells, h0, loadCells, loadCellsFrom]
    · obtain ⟨b, off, c, rfl, hc1, hc2, hc3⟩ := hc hys
      have hR : RepL W w ((List.range ys.length).map c) ys := by
        refine ⟨by simp, fun j u x hu hx => ?_⟩
        have hj := (List.getElem?_eq_some_iff.1 hx).1
        simp [hj] at hu; subst hu
        exact hc3 j x hx
      have hsrc := Src.ofSlice (P := P) w (size := size) hu (⟨b, off, none⟩ : Addr) k cap ((List.range ys.length).map c) (by simpa using hl) (fun j u hu => by
        have hj := (List.getElem?_eq_some_iff.1 hu).1
        simp at hj
        simp [hj] at hu; subst hu
        rw [add_plain]; exact hc1 j hj) (fun u hu => by
        obtain ⟨j, hj, hju⟩ := List.getElem_of_mem hu
        have hj' : j < ys.length := by simpa using hj
        refine rep_one (hR.2 j u _ (by rw [List.getElem?_eq_getElem hj, hju]) (List.getElem?_eq_getElem hj')) ?_
        exact List.all_eq_true.1 ho _ (List.getElem_mem hj'))
      exact ⟨_, hsrc, hR⟩
  cases x <;> simp only [srcOf, Option.some.injEq, Prod.mk.injEq, reduceCtorEq] at hs
  case str bs =>
    obtain ⟨rfl, rfl⟩ := hs
    obtain ⟨h1, rfl⟩ := hd
    rw [h1] at hu
    simp only [DescOk] at hu
    rw [rep_str h]
    refine ⟨_, Src.ofString w hu bs, ?_⟩
    refine ⟨by simp [byteCells], fun j u x hu hx => ?_⟩
    simp only [byteCells, List.getElem?_map, Option.map_eq_some_iff] at hu hx
    obtain ⟨y, hy, rfl⟩ := hu
    obtain ⟨y', hy', rfl⟩ := hx
    rw [hy] at hy'; cases hy'
    exact .int _ _
  case slc => obtain ⟨rfl, rfl⟩ := hs; exact key (.inr (.inl rfl)) hd
  case nils => obtain ⟨rfl, rfl⟩ := hs; exact key (.inr (.inr (.inr ⟨rfl, rfl, rfl⟩))) hd
  case ful => obtain ⟨rfl, rfl⟩ := hs; exact key (.inr (.inr (.inl rfl))) hd
  case own => obtain ⟨rfl, rfl⟩ := hs; exact key (.inl ⟨_, rfl⟩) hd

/-- What an append to a slice without room does. -/
theorem append_grow {T : TT} (hT : TOk P T) {K : Own} {w : World} (hs : Sep σ K w) {t tx e ty : TypeId} {it ie itx : TI} (ht : T t = some it) (hd : it.desc = .slice e) (he : T e = some ie) (hne : ie.size ≠ 0) (htx : T tx = some itx) {A : Option Addr} {n cap k : Nat} {cs ys : List PV} {v : Value} {x : PV}
    (hc : Rep ((owns σ).or K) w (.slice A n cap) (.slc cs n)) (hcl : cs.length = n * ie.size) (hx : Rep ((owns σ).or K) w v x) (hsrc : srcOf x = some (ys, k)) (hl : ys.length = k * ie.size) (ho : ys.all PV.one = true)
    (hdx : SrcOk itx ie.size x) (hg : cap < n + k) (hfit : (n + k) * ie.bytes ≤ 140737488355328) (hint : n + k ≤ 9223372036854775807) :
    ∃ v' w', (Builtin.append_ #[t, tx] ty #[.slice A n cap, v]).run P w = .ok v' w' ∧ Rep ((owns (.spare v' ie.size :: σ)).or K) w' v' (.slc (cs ++ ys) (n + k)) ∧ Sep (.spare v' ie.size :: σ) K w' ∧ Trans (owns σ) w w' (owns (.spare v' ie.size :: σ)) := by
  have hu := tt_und hT ht
  rw [hd] at hu
  simp only [DescOk] at hu
  obtain ⟨⟨info, hin, hsz, hby, z, hz, hzm, _⟩, _, hzl⟩ := hT e ie he
  obtain ⟨news, hS, hRn⟩ := src_run (P := P) hT htx hx (size := ie.size) hsrc hl ho hdx
  obtain ⟨A', cap', hv', hnc, hcells⟩ := rep_slc hc
  cases hv'
  obtain ⟨olds, hold, hRo⟩ : ∃ olds : List Value, (Builtin.firstCells info.size n (.slice A n cap)).run P w.drew = .ok olds.toArray w.drew ∧ RepL ((owns σ).or K) w olds cs := by
    by_cases hcs : cs = []
    · subst hcs
      have h0 : n * ie.size = 0 := by simpa using hcl.symm
      refine ⟨[], ?_, RepL.nil⟩
      cases A <;> simp [Builtin.firstCells, hsz, h0, loadCells, loadCellsFrom]
    · obtain ⟨b, off, c, rfl, hc1, hc2, hc3⟩ := hcells hcs
      refine ⟨(List.range cs.length).map c, ?_, ⟨by simp, fun j u x hu hx => ?_⟩⟩
      · have := load_cells (P := P) (w := w.drew) (b := b) (o := off) (n := n * info.size) (c := c) (fun j hj => by
          rw [World.cell?_drew]; exact hc1 j (by rw [hcl, ← hsz]; exact hj))
        rw [hsz] at this
        simp [Builtin.firstCells, this, hcl, hsz]
      · have hj := (List.getElem?_eq_some_iff.1 hx).1
        simp [hj] at hu; subst hu
        exact hc3 j x hx
  have hrun := run_append_grow_src (P := P) w t tx ty e info z hu hin hz A n cap olds hold v k news (by rw [hsz]; exact hS) hg (by omega) (growslice_fits hg (by rw [hby]; omega))
  generalize hC : grownCap w (n + k) cap e = C at hrun
  have hCge : n + k ≤ C := by rw [← hC]; exact grownCap_ge w (n + k) cap e
  generalize harr : (olds ++ news).toArray ++ Builtin.zeroCells z.cells (C - (n + k)) = arr at hrun
  have q : Quiet w (w.drew.alloc (.cells arr e)) := (Quiet.drew w).trans (Quiet.alloc _ _)
  have hzs : z.cells.size = ie.size := by rw [← hzl, ← hzm]; simp
  have hasz : arr.size = C * ie.size := by
    rw [← harr]
    simp only [Array.size_append, List.size_toArray, List.length_append, hRo.1, hRn.1, hcl, hl, Builtin.zeroCells, Array.size_map, Array.size_range, hzs, ← Nat.add_mul]
    congr 1; omega
  have hget : (w.drew.alloc (.cells arr e)).heap[w.heap.size]? = some (.cells arr e (0, 0)) := by
    show (w.heap.push _)[w.heap.size]? = _
    simp
  have hsp : (Ent.spare (.slice (some ⟨w.heap.size, 0, none⟩) (n + k) C) ie.size).holds ((owns (.spare (.slice (some ⟨w.heap.size, 0, none⟩) (n + k) C) ie.size :: σ)).or K) (w.drew.alloc (.cells arr e)) := by
    by_cases hlt : n + k < C
    · exact .inr ⟨_, 0, n + k, C, arr, e, rfl, hlt, hget, by omega⟩
    · have : n + k = C := by omega
      rw [this]; exact .inl ⟨_, _, rfl⟩
  obtain ⟨g1, g2⟩ := Sep.fresh (e := .spare (.slice (some ⟨w.heap.size, 0, none⟩) (n + k) C) ie.size) hs q (fun b j ho => by simp only [Ent.owns] at ho; omega) hsp
  refine ⟨_, _, hrun, ?_, g1, g2⟩
  have hRall : RepL ((owns (.spare (.slice (some ⟨w.heap.size, 0, none⟩) (n + k) C) ie.size :: σ)).or K) (w.drew.alloc (.cells arr e)) (olds ++ news) (cs ++ ys) := by
    have := hRo.append hRn
    refine ⟨this.1, fun j u x hu hx => Rep.fresh q (fun b j hlt ho => ?_) (this.2 j u x hu hx)⟩
    rcases ho with ho | ho
    · rcases owns_cons.1 ho with h1 | h1
      · simp only [Ent.owns] at h1; omega
      · exact .inl h1
    · exact .inr ho
  have hlen : (olds ++ news).length = (n + k) * ie.size := by rw [hRall.1, List.length_append, hcl, hl, Nat.add_mul]
  refine .slc (fun j => arr.getD j undef) hCge (fun j hj => ?_) (fun j hj ho => ?_) (fun j x hx => ?_)
  · have hj' : j < arr.size := by
      rw [hasz]; rw [← hRall.1, hlen] at hj
      exact Nat.lt_of_lt_of_le hj (Nat.mul_le_mul_right _ hCge)
    simp only [World.cell?, Nat.zero_add, hget]
    simp [hj']
  · rw [← hRall.1, hlen] at hj
    rcases ho with ho | ho
    · rcases owns_cons.1 ho with h1 | h1
      · simp only [Ent.owns] at h1; omega
      · have := hs.lt h1; omega
    · have := hs.bound _ _ ho; omega
  · have hj := (List.getElem?_eq_some_iff.1 hx).1
    have hj1 : j < (olds ++ news).length := by rw [hRall.1]; exact hj
    have hj2 : j < arr.size := by
      rw [hasz]; rw [hlen] at hj1
      exact Nat.lt_of_lt_of_le hj1 (Nat.mul_le_mul_right _ hCge)
    refine hRall.2 j _ x ?_ hx
    have : arr[j]? = (olds ++ news)[j]? := by
      rw [← harr, Array.getElem?_append_left (by simpa using hj1)]; simp
    rw [← this]; simp [hj2]

/-- append to a slice whose room is its length (nil, a literal): a new one. -/
theorem OpOk.appendFul {T : TT} (hT : TOk P T) {o : Oper} {xs xx : Operand} {t tx e : TypeId} {it ie itx : TI} (ho : o.op = .call ⟨.builtin .append, #[xs, xx], #[t, tx]⟩) {ρ : Operand → PV} (ht : T t = some it) (hd : it.desc = .slice e) (he : T e = some ie) (hne : ie.size ≠ 0) (htx : T tx = some itx)
    {cs ys : List PV} {n k : Nat} (hxs : (ρ xs = .ful cs n) ∨ (ρ xs = .nils ∧ cs = [] ∧ n = 0)) (hcl : cs.length = n * ie.size) (hsrc : srcOf (ρ xx) = some (ys, k)) (hl : ys.length = k * ie.size) (hone : ys.all PV.one = true) (hdx : SrcOk itx ie.size (ρ xx))
    (hfit : (n + k) * ie.bytes ≤ 140737488355328) (hint : n + k ≤ 9223372036854775807) : OpOk P o ρ σ fun r σ' => ∃ v, r = .own v (cs ++ ys) (n + k) ∧ σ' = .spare v ie.size :: σ := by
  intro K a w hs hr kk QQ hk
  have h1 := hr xs (by rw [ho]; simp [Op.operands, Call.operands])
  have h2 := hr xx (by rw [ho]; simp [Op.operands, Call.operands])
  have hu := tt_und hT ht
  rw [hd] at hu
  simp only [DescOk] at hu
  obtain ⟨⟨info, hin, hsz, hby, z, hz, hzm, _⟩, _, hzl⟩ := hT e ie he
  obtain ⟨A, hv, hc⟩ : ∃ A, a.eval xs = .slice A n n ∧ Rep ((owns σ).or K) w (.slice A n n) (.slc cs n) := by
    rcases hxs with h | ⟨h, rfl, rfl⟩
    · rw [h] at h1
      obtain ⟨⟨A, hA⟩, h3⟩ := rep_ful h1
      exact ⟨A, hA, by rw [← hA]; exact h3⟩
    · rw [h] at h1
      have := rep_nils h1
      exact ⟨none, this, .slc0 _ _ _ (Nat.le_refl _)⟩
  by_cases hk0 : k = 0
  · subst hk0
    have hys : ys = [] := by
      have : ys.length = 0 := by rw [hl]; simp
      exact List.eq_nil_of_length_eq_zero this
    subst hys
    obtain ⟨news, hS, hRn⟩ := src_run (P := P) hT htx h2 (size := ie.size) hsrc hl hone hdx
    have hn0 : news = [] := by
      have : news.length = 0 := by rw [hRn.1]; rfl
      exact List.eq_nil_of_length_eq_zero this
    subst hn0
    have hrun : (Builtin.append_ #[t, tx] o.type #[.slice A n n, a.eval xx]).run P w = .ok (.slice A n n) w := by
      have hcl0 := hS.cells
      rcases hS.kind with ⟨e', hkk⟩ | hkk <;> cases A <;>
        simp [Builtin.append_, run_underlying hu, run_underlying hkk, sizeOf, typeInfo, hin, hsz, hS.len, hcl0, storeCells]
    have hfin : (execOp a.eval o).run P w = .ok (.value (.slice A n n)) w := by
      simp [execOp, ho, resolve, invoke, builtin, hv, hrun]
    unfold Oper.wp
    rw [hfin, Oper.upon_value]
    obtain ⟨g1, g2⟩ := Sep.fresh (e := .spare (.slice A n n) ie.size) hs (Quiet.refl w) (fun b j hb => by cases A <;> simp [Ent.owns] at hb) (.inl ⟨_, _, rfl⟩)
    refine hk _ _ _ _ ⟨.slice A n n, rfl, rfl⟩ g1 (.own ?_) g2
    rw [List.append_nil]
    exact Rep.fresh (Quiet.refl w) (fun b j _ hb => by
      rcases hb with hb | hb
      · rcases owns_cons.1 hb with h5 | h5
        · cases A <;> simp [Ent.owns] at h5
        · exact .inl h5
      · exact .inr hb) hc
  · obtain ⟨v', w', hrun, g1, g2, g3⟩ := append_grow (P := P) hT hs (ty := o.type) ht hd he hne htx hc hcl h2 hsrc hl hone hdx (by omega) hfit hint
    have hfin : (execOp a.eval o).run P w = .ok (.value v') w' := by
      simp [execOp, ho, resolve, invoke, builtin, hv, hrun]
    unfold Oper.wp
    rw [hfin, Oper.upon_value]
    exact hk _ _ _ _ ⟨v', rfl, rfl⟩ g2 (.own g1) g3

theorem Sep.dropMid {pre post : List Ent} {e : Ent} {K : Own} {w : World} (h : Sep (pre ++ e :: post) K w) : Sep (pre ++ post) K w :=
  Sep.dropped (drop := [e]) (h.perm (by simp))

/-- append to a slice that is this code's own. -/
theorem OpOk.appendOwn {T : TT} (hT : TOk P T) {o : Oper} {xs xx : Operand} {t tx e : TypeId} {it ie itx : TI} (ho : o.op = .call ⟨.builtin .append, #[xs, xx], #[t, tx]⟩) {ρ : Operand → PV} (ht : T t = some it) (hd : it.desc = .slice e) (he : T e = some ie) (hne : ie.size ≠ 0) (htx : T tx = some itx)
    {u : Value} {cs ys : List PV} {n k : Nat} (hxs : ρ xs = .own u cs n) {pre post : List Ent} (hσ : σ = pre ++ .spare u ie.size :: post) (hcl : cs.length = n * ie.size) (hsrc : srcOf (ρ xx) = some (ys, k)) (hl : ys.length = k * ie.size) (hone : ys.all PV.one = true) (hdx : SrcOk itx ie.size (ρ xx))
    (hfit : (n + k) * ie.bytes ≤ 140737488355328) (hint : n + k ≤ 9223372036854775807) : OpOk P o ρ σ fun r σ' => ∃ v, r = .own v (cs ++ ys) (n + k) ∧ σ' = pre ++ .spare v ie.size :: post := by
  subst hσ
  intro K a w hs hr kk QQ hk
  have h1 := hr xs (by rw [ho]; simp [Op.operands, Call.operands])
  have h2 := hr xx (by rw [ho]; simp [Op.operands, Call.operands])
  have hu := tt_und hT ht
  rw [hd] at hu
  simp only [DescOk] at hu
  obtain ⟨⟨info, hin, hsz, hby, z, hz, hzm, _⟩, _, hzl⟩ := hT e ie he
  rw [hxs] at h1
  obtain ⟨hv, hc⟩ := rep_own h1
  obtain ⟨A, cap, hu', hnc, hcells⟩ := rep_slc hc
  by_cases hroom : n + k ≤ cap
  · obtain ⟨news, hS, hRn⟩ := src_run (P := P) hT htx h2 (size := ie.size) hsrc hl hone hdx
    have hnl : news.length = k * ie.size := by rw [hRn.1, hl]
    by_cases hk0 : k = 0
    · -- nothing is appended
      subst hk0
      have hn0 : news = [] := List.eq_nil_of_length_eq_zero (by rw [hnl]; simp)
      have hys : ys = [] := List.eq_nil_of_length_eq_zero (by rw [hl]; simp)
      subst hn0; subst hys
      have hrun : (Builtin.append_ #[t, tx] o.type #[.slice A n cap, a.eval xx]).run P w = .ok (.slice A n cap) w := by
        have hcl0 := hS.cells
        rcases hS.kind with ⟨e', hkk⟩ | hkk <;> cases A <;>
          simp [Builtin.append_, run_underlying hu, run_underlying hkk, sizeOf, typeInfo, hin, hsz, hS.len, hcl0, storeCells, hnc]
      have hfin : (execOp a.eval o).run P w = .ok (.value (.slice A n cap)) w := by
        simp [execOp, ho, resolve, invoke, builtin, hu', hrun]
      unfold Oper.wp
      rw [hfin, Oper.upon_value]
      have hsame : u = .slice A n cap := by rw [← hv, hu']
      subst hsame
      refine hk _ _ _ _ ⟨.slice A n cap, rfl, rfl⟩ hs (.own ?_) (Trans.refl _ _)
      rw [List.append_nil]; rw [hu'] at hc; exact hc
    · -- there is room: the spare cells are written
      have hsame : u = .slice A n cap := by rw [← hv, hu']
      subst hsame
      rcases hs.holds (.spare (.slice A n cap) ie.size) (by simp) with ⟨A', n', hA⟩ | ⟨b, off, n', cap', arr, t', hA, hlt, hb, hsz2⟩
      · injection hA with _ e1 e2; omega
      · injection hA with e0 e1 e2
        subst e0; subst e1; subst e2
        have hnl2 : n * ie.size + news.length ≤ cap * ie.size := by
          rw [hnl, ← Nat.add_mul]; exact Nat.mul_le_mul_right _ hroom
        have hst := run_storeCells_at (P := P) b (off + n * ie.size) t' news 0 arr w hb (by omega) hS.one
        simp only [Nat.add_zero] at hst
        generalize harr : (arr.toList.take (off + n * ie.size) ++ news ++ arr.toList.drop (off + n * ie.size + news.length)).toArray = arr' at hst
        have hrun : (Builtin.append_ #[t, tx] o.type #[.slice (some ⟨b, off, none⟩) n cap, a.eval xx]).run P w = .ok (.slice (some ⟨b, off, none⟩) (n + k) cap) (w.setRow b arr') := by
          have hcl0 := hS.cells
          rcases hS.kind with ⟨e', hkk⟩ | hkk <;>
            simp [Builtin.append_, run_underlying hu, run_underlying hkk, sizeOf, typeInfo, hin, hsz, hS.len, hcl0, hroom, add_plain, hst]
        have hfin : (execOp a.eval o).run P w = .ok (.value (.slice (some ⟨b, off, none⟩) (n + k) cap)) (w.setRow b arr') := by
          simp [execOp, ho, resolve, invoke, builtin, hu', hrun]
        unfold Oper.wp
        rw [hfin, Oper.upon_value]
        have hasz' : arr'.size = arr.size := by
          rw [← harr]; simp; omega
        have hgetlt : ∀ j, j < off + n * ie.size → arr'[j]? = arr[j]? := fun j hj => by
          rw [← harr]
          simp only [List.getElem?_toArray, List.append_assoc]
          rw [List.getElem?_append_left (by simp; omega), List.getElem?_take_of_lt hj]; simp
        have hgetnew : ∀ j, j < news.length → arr'[off + n * ie.size + j]? = news[j]? := fun j hj => by
          rw [← harr]
          simp only [List.getElem?_toArray, List.append_assoc]
          rw [List.getElem?_append_right (by simp; omega), List.getElem?_append_left (by simp; omega)]
          congr 1; simp; omega
        have ht' : Trans (Ent.spare (.slice (some ⟨b, off, none⟩) n cap) ie.size).owns w (w.setRow b arr') (Ent.spare (.slice (some ⟨b, off, none⟩) (n + k) cap) ie.size).owns := by
          refine setRow_quietish hb (fun j c hn hc' => ?_) ⟨off + n * ie.size, rfl, Nat.le_refl _, hlt⟩ (fun b' j ho' => ?_)
          · simp only [Ent.owns, not_and] at hn
            rw [hgetlt j (by rcases Nat.lt_or_ge j (off + n * ie.size) with h | h; exact h; exact absurd hlt (hn trivial h))]; exact hc'
          · obtain ⟨h5, h6, h7⟩ := ho'
            have h6' : off + (n + k) * ie.size ≤ j := h6
            rw [Nat.add_mul] at h6'
            exact ⟨h5, (show off + n * ie.size ≤ j by omega), hlt⟩
        have hholds : (Ent.spare (.slice (some ⟨b, off, none⟩) (n + k) cap) ie.size).holds ((owns (pre ++ .spare (.slice (some ⟨b, off, none⟩) (n + k) cap) ie.size :: post)).or K) (w.setRow b arr') := by
          by_cases hlt2 : n + k < cap
          · exact .inr ⟨b, off, n + k, cap, arr', t', rfl, hlt2, setRow_heap w b arr arr' t' _ hb, by omega⟩
          · have : n + k = cap := by omega
            rw [this]; exact .inl ⟨_, _, rfl⟩
        have hsub : ∀ b' j, (Ent.spare (.slice (some ⟨b, off, none⟩) (n + k) cap) ie.size).owns b' j → (Ent.spare (.slice (some ⟨b, off, none⟩) n cap) ie.size).owns b' j := fun b' j ho' => by
          obtain ⟨h5, h6, h7⟩ := ho'
          have h6' : off + (n + k) * ie.size ≤ j := h6
          rw [Nat.add_mul] at h6'
          exact ⟨h5, (show off + n * ie.size ≤ j by omega), hlt⟩
        obtain ⟨g1, g2⟩ := Sep.turn (e' := .spare (.slice (some ⟨b, off, none⟩) (n + k) cap) ie.size) hs hsub ht' hholds
        refine hk _ _ _ _ ⟨_, rfl, rfl⟩ g1 (.own ?_) g2
        have hsp := hs.perm (τ := .spare (.slice (some ⟨b, off, none⟩) n cap) ie.size :: (pre ++ post)) List.perm_middle
        have other : ∀ j, ¬ owns (pre ++ post) b j := fun j ⟨e', he', ho'⟩ =>
          (List.pairwise_cons.1 hsp.apart).1 e' he' b (max j (off + n * ie.size)) ⟨rfl, Nat.le_max_right _ _, hlt⟩ (Ent.owns_up ho' (Nat.le_max_left _ _))
        have noK : ∀ j, off + n * ie.size ≤ j → ¬ K b j := fun j hj => hs.frame b j (owns_append.2 (.inr (owns_cons.2 (.inl ⟨rfl, hj, hlt⟩))))
        have hcl' : (cs ++ ys).length = n * ie.size + k * ie.size := by rw [List.length_append, hcl, hl]
        refine .slc (fun j => arr'.getD (off + j) undef) hroom (fun j hj => ?_) (fun j hj ho' => ?_) (fun j x hx => ?_)
        · rw [cell_setRow_same w b _ arr arr' t' _ hb]
          have : off + j < arr'.size := by rw [hasz']; rw [hcl', ← hnl] at hj; omega
          simp [this]
        · rw [hcl'] at hj
          rcases ho' with ho' | ho'
          · rcases owns_append.1 ho' with h5 | h5
            · exact other _ (owns_append.2 (.inl h5))
            · rcases owns_cons.1 h5 with h6 | h6
              · have h7 : off + (n + k) * ie.size ≤ off + j := h6.2.1
                rw [Nat.add_mul] at h7; omega
              · exact other _ (owns_append.2 (.inr h6))
          · rcases Nat.lt_or_ge j (n * ie.size) with hlt3 | hge3
            · have hcs : cs ≠ [] := fun h0 => by subst h0; rw [← hcl] at hlt3; simp at hlt3
              obtain ⟨b2, off2, c, h7, _, hc2, _⟩ := hcells hcs
              cases h7
              exact hc2 j (by rw [hcl]; exact hlt3) (.inr ho')
            · exact noK _ (by omega) ho'
        · have hj := (List.getElem?_eq_some_iff.1 hx).1
          rw [hcl'] at hj
          rcases Nat.lt_or_ge j (n * ie.size) with hlt3 | hge3
          · rw [List.getElem?_append_left (by rw [hcl]; exact hlt3)] at hx
            have hcs : cs ≠ [] := fun h0 => by subst h0; simp at hx
            obtain ⟨b2, off2, c, h7, hc1, _, hc3⟩ := hcells hcs
            cases h7
            have h8 := hc1 j (by rw [hcl]; exact hlt3)
            have h9 : arr'[off + j]? = some (c j) := by
              rw [hgetlt _ (by omega)]
              simpa [World.cell?, hb] using h8
            have : arr'.getD (off + j) undef = c j := by simp [h9]
            simp only [this]
            exact (hc3 j x hx).trans g2
          · rw [List.getElem?_append_right (by rw [hcl]; exact hge3), hcl] at hx
            have hjn : j - n * ie.size < news.length := by omega
            have h9 : arr'[off + j]? = some news[j - n * ie.size] := by
              have := hgetnew (j - n * ie.size) hjn
              rw [show off + n * ie.size + (j - n * ie.size) = off + j by omega] at this
              rw [this, List.getElem?_eq_getElem hjn]
            have : arr'.getD (off + j) undef = news[j - n * ie.size] := by simp [h9]
            simp only [this]
            exact (hRn.2 _ _ x (List.getElem?_eq_getElem hjn) hx).trans g2
  · obtain ⟨v', w', hrun, g1, g2, g3⟩ := append_grow (P := P) hT hs (ty := o.type) ht hd he hne htx (by rw [← hu']; exact hc) hcl h2 hsrc hl hone hdx (by omega) hfit hint
    have hfin : (execOp a.eval o).run P w = .ok (.value v') w' := by
      simp [execOp, ho, resolve, invoke, builtin, hu', hrun]
    unfold Oper.wp
    rw [hfin, Oper.upon_value]
    have hp : (.spare v' ie.size :: (pre ++ .spare u ie.size :: post)).Perm ([.spare u ie.size] ++ (pre ++ .spare v' ie.size :: post)) := by
      refine (List.Perm.cons _ List.perm_middle).trans ((List.Perm.swap _ _ _).trans (List.Perm.cons _ List.perm_middle.symm))
    have g2' := g2.perm hp
    refine hk _ _ _ _ ⟨v', rfl, rfl⟩ g2'.dropped (.own (drop_sub (drop := [.spare u ie.size]) (by rw [← owns_perm_eq hp]; exact g1))) ⟨g3.os, g3.tape, g3.output, g3.size, g3.cell, g3.block, fun b j hb => g3.own b j ?_⟩
    rw [owns_perm hp]; exact owns_append.2 (.inr hb)
end
end Go.Mq
