/- Contracts of package ptype's parser: the rules of the grammar, whole. -/
import Derived.Test.YtceoldiblphahaaGreatDoorMqW3
set_option linter.unusedVariables false
set_option linter.unusedSimpArgs false
set_option linter.unusedSectionVars false
namespace Go.Proofs.YtceoldiblphahaaGreatDoor
open Go.Mq
attribute [local irreducible] Ex ExOps QSeq QBlock QLoop QRet OpOk Callable DEx DRd Melt Wk Tree.pv pvs toks opv strs

attribute [local irreducible] nameF wordF checkF longF keyF nameAt longAt typF productF atomF consF

theorem cons_err (p : Nat) (l : List Tok) (i e : Int) (h : e ≠ 0) : Callable Tryz.prog 32 [.loc p 0] [pst p l i e] (Ret .nils [pst p l i e]) := by
  refine Callable.of_ex tOk [.tmp 2] Tryz.func32 rfl rfl rfl (Nat.le_of_ble_eq_true rfl) ?_
  repeat' (first
    | (refine Ex.g ?_; first | refine Ex.seq ?_ | refine Ex.region ?_ | refine Ex.skip ?_ | refine Ex.ret ?_ | refine Ex.exit ?_ | refine Ex.block ?_ | (refine Ex.gCond ?_; first | refine Ex.condT rfl ?_ | refine Ex.condF rfl ?_ | refine Ex.condD rfl (fun hc => ?_) (fun hc => ?_) | refine Ex.condN rfl (fun hc => ?_) (fun hc => ?_) | refine Ex.cond rfl (fun hc => ?_) (fun hc => ?_)))
    | refine ExOps.nil ?_
    | (refine ExOps.gPC ?_; first | refine ExOps.opR (OpOk.len tOk rfl rfl rfl) rfl ?_)
    | (refine ExOps.gP ?_; first | (refine ExOps.gB ?_; refine ExOps.calcE tOk rfl rfl (by conv => lhs; simp [pev, upd, PV.cells, argSlots]) ?_) | refine ExOps.calcE tOk rfl rfl (by conv => lhs; whnf) ?_ | (refine ExOps.op (OpOk.newMap rfl) rfl ?_; rintro _ _ ⟨b, rfl, rfl⟩))
    | (refine ExOps.gG ?_; first | (refine ExOps.gIn rfl rfl ?_; first | refine ExOps.calcGE tOk rfl rfl rfl rfl rfl (by conv => lhs; whnf) ?_) | refine ExOps.skipGU rfl rfl rfl rfl ?_ | refine ExOps.skipU rfl rfl rfl ?_ | (refine ExOps.gAnd3 ?_; refine' ExOps.and3 tOk rfl rfl rfl rfl rfl rfl rfl (by first | rfl | exact isDec _) (fun hg => ?_) ?_; rotate_left 3) | ((fail_if_success refine ExOps.gIn rfl rfl ?_); first | refine ExOps.guardD rfl rfl rfl (fun hg => ?_) (fun hg => ?_) | refine ExOps.guard rfl rfl rfl (fun hg => ?_) (fun hg => ?_)))
    | (refine QSeq.g ?_; first | refine QSeq.norm ?_ | refine QSeq.ret ?_ | refine QSeq.exit ?_)
    | (refine QBlock.g ?_; first | refine QBlock.norm ?_ | refine QBlock.ret ?_ | refine QBlock.hit rfl ?_ | refine QBlock.miss rfl ?_)
    | (refine QLoop.g ?_; first | refine QLoop.ret ?_ | refine QLoop.exit ?_)
    | (refine QRet.g ?_; (first | ((first | refine QRet.end_ (.cons (.tmpE (by conv => lhs; whnf)) .nil) ?_ | refine QRet.endN (.cons (.tmpE (by conv => lhs; whnf)) .nil) ?_); try (focus first | rfl | (simp_all [packP]; done))) | ((first | refine QRet.same (.cons (.tmpE (by conv => lhs; whnf)) .nil) ?_ ?_ | refine QRet.sameN (.cons (.tmpE (by conv => lhs; whnf)) .nil) ?_ ?_); try (rotate_left; (focus first | rfl | (simp_all [packP]; done)); try (focus first | rfl | (simp_all [packP]; done))))))
    | refine ⟨rfl, (by first | rfl | exact isDec _), (by (repeat' (first | exact WkS.refl _ | refine WkS.upd ?_ Wk.junk)); first | done | fail), rfl⟩
    | fail)
  refine Ex.loop (fun m s σ => s 0 = .loc p 0 ∧ s 3 = .nils ∧ σ = [sset b [], pst p l i e]) (0) ⟨(by first | rfl | assumption | omega | exact slot_check rfl | (simp; done) | (simp; omega) | fail), (by first | rfl | assumption | omega | exact slot_check rfl | (simp; done) | (simp; omega) | fail), rfl⟩ ?_
  rintro m s σ ⟨h0, h3, rfl⟩
  refine (Ex.have_ (t := 0) h0 (Ex.have_ (t := 3) h3 ?_))
  repeat' (first
    | (refine Ex.g ?_; first | refine Ex.seq ?_ | refine Ex.region ?_ | refine Ex.skip ?_ | refine Ex.ret ?_ | refine Ex.exit ?_ | refine Ex.block ?_ | (refine Ex.gCond ?_; first | refine Ex.condT rfl ?_ | refine Ex.condF rfl ?_ | refine Ex.condD rfl (fun hc => ?_) (fun hc => ?_) | refine Ex.condN rfl (fun hc => ?_) (fun hc => ?_) | refine Ex.cond rfl (fun hc => ?_) (fun hc => ?_)))
    | refine ExOps.nil ?_
    | (refine ExOps.gPC ?_; first | refine ExOps.opR (OpOk.len tOk rfl rfl rfl) rfl ?_)
    | (refine ExOps.gP ?_; first | (refine ExOps.gB ?_; refine ExOps.calcE tOk rfl rfl (by conv => lhs; simp [pev, upd, PV.cells, argSlots]) ?_) | refine ExOps.calcE tOk rfl rfl (by conv => lhs; whnf) ?_ | refine ExOps.opR (OpOk.loadR tOk rfl rfl rfl (.head _) rfl (by conv => lhs; whnf)) rfl ?_ | refine ExOps.opR (OpOk.loadR tOk rfl rfl rfl (.tail _ (.head _)) rfl (by conv => lhs; whnf)) rfl ?_ | refine ExOps.opR (OpOk.loadR tOk rfl rfl rfl (.tail _ (.tail _ (.head _))) rfl (by conv => lhs; whnf)) rfl ?_ | refine ExOps.opR (OpOk.loadR tOk rfl rfl rfl (.tail _ (.tail _ (.tail _ (.head _)))) rfl (by conv => lhs; whnf)) rfl ?_ | refine ExOps.opR0 (OpOk.store1 tOk rfl rfl rfl rfl [] _ rfl rfl (by conv => lhs; whnf) rfl rfl (by simp only [List.set, Nat.reduceAdd]; rfl)) ?_ | refine ExOps.opR0 (OpOk.store1 tOk rfl rfl rfl rfl [_] _ rfl rfl (by conv => lhs; whnf) rfl rfl (by simp only [List.set, Nat.reduceAdd]; rfl)) ?_ | refine ExOps.opR0 (OpOk.store1 tOk rfl rfl rfl rfl [_, _] _ rfl rfl (by conv => lhs; whnf) rfl rfl (by simp only [List.set, Nat.reduceAdd]; rfl)) ?_ | refine ExOps.opR0 (OpOk.store1 tOk rfl rfl rfl rfl [_, _, _] _ rfl rfl (by conv => lhs; whnf) rfl rfl (by simp only [List.set, Nat.reduceAdd]; rfl)) ?_)
    | (refine ExOps.gG ?_; first | (refine ExOps.gIn rfl rfl ?_; first | refine ExOps.calcGE tOk rfl rfl rfl rfl rfl (by conv => lhs; whnf) ?_ | refine ExOps.opRG rfl rfl rfl (OpOk.loadR tOk rfl rfl rfl (.head _) rfl (by conv => lhs; whnf)) rfl ?_ | refine ExOps.opRG rfl rfl rfl (OpOk.loadR tOk rfl rfl rfl (.tail _ (.head _)) rfl (by conv => lhs; whnf)) rfl ?_ | refine ExOps.opRG rfl rfl rfl (OpOk.loadR tOk rfl rfl rfl (.tail _ (.tail _ (.head _))) rfl (by conv => lhs; whnf)) rfl ?_ | refine ExOps.opRG rfl rfl rfl (OpOk.loadR tOk rfl rfl rfl (.tail _ (.tail _ (.tail _ (.head _)))) rfl (by conv => lhs; whnf)) rfl ?_) | refine ExOps.skipGU rfl rfl rfl rfl ?_ | refine ExOps.skipU rfl rfl rfl ?_ | (refine ExOps.gAnd3 ?_; refine' ExOps.and3 tOk rfl rfl rfl rfl rfl rfl rfl (by first | rfl | exact isDec _) (fun hg => ?_) ?_; rotate_left 3) | ((fail_if_success refine ExOps.gIn rfl rfl ?_); first | refine ExOps.guardD rfl rfl rfl (fun hg => ?_) (fun hg => ?_) | refine ExOps.guard rfl rfl rfl (fun hg => ?_) (fun hg => ?_)))
    | (refine QSeq.g ?_; first | refine QSeq.norm ?_ | refine QSeq.ret ?_ | refine QSeq.exit ?_)
    | (refine QBlock.g ?_; first | refine QBlock.norm ?_ | refine QBlock.ret ?_ | refine QBlock.hit rfl ?_ | refine QBlock.miss rfl ?_)
    | (refine QLoop.g ?_; first | refine QLoop.ret ?_ | refine QLoop.exit ?_)
    | (refine QRet.g ?_; (refine QRet.melt [_] (.cons (.tmpE (by conv => lhs; whnf)) .nil) rfl ?_; try (focus first | rfl | (exact Melt.wk (Wk.refl _); done))))
    | refine ⟨rfl, (by first | rfl | exact isDec _), (by (repeat' (first | exact WkS.refl _ | refine WkS.upd ?_ Wk.junk)); first | done | fail), rfl⟩
    | fail)
  all_goals exact absurd ‹e = 0› h

/-- What the rules do with enough fuel. -/
abbrev TypC (p : Nat) (l : List Tok) (n : Nat) (i : Int) : Prop := Callable Tryz.prog 30 [.loc p 0] [pst p l i 0] (Ret (resT (typF n l i)) [pst p l (typF n l i).2.1 (typF n l i).2.2])
abbrev ProductC (p : Nat) (l : List Tok) (n : Nat) (i : Int) : Prop := Callable Tryz.prog 55 [.loc p 0] [pst p l i 0] (Ret (resT (productF n l i)) [pst p l (productF n l i).2.1 (productF n l i).2.2])
abbrev AtomC (p : Nat) (l : List Tok) (n : Nat) (i : Int) : Prop := Callable Tryz.prog 91 [.loc p 0] [pst p l i 0] (Ret (resT (atomF n l i)) [pst p l (atomF n l i).2.1 (atomF n l i).2.2])
def resL (R : List Tree × Int × Int) : PV := if R.2.2 = 0 then .slc (pvs R.1) R.1.length else .any1
abbrev ConsC (p : Nat) (l : List Tok) (n : Nat) (i : Int) : Prop := Callable Tryz.prog 32 [.loc p 0] [pst p l i 0] (Ret (resL (consF n l i [])) [pst p l (consF n l i []).2.1 (consF n l i []).2.2])
theorem resT_one (R : Tree × Int × Int) : (resT R).one = true := by
  unfold resT; split
  · exact pv_one _
  · rfl
theorem resL_one (R : List Tree × Int × Int) : (resL R).one = true := by
  unfold resL; split <;> rfl
/-- What fuel a rule needs. -/
abbrev Room (l : List Tok) (c : Int) (n : Nat) (i : Int) : Prop := (0 ≤ i ∧ i ≤ l.length) ∧ 3 * (l.length - i) + c ≤ n

theorem wk_two (k : Int) (a b : Tree) (e2 : Int) (R2 : Tree × Int × Int) (X : PV) (h0 : R2.2.2 = 0 → X = (nod k ⟨#[]⟩ [a, R2.1]).pv) (h1 : R2.2.2 ≠ 0 → X = .any1) : Wk (.ptr [.int .i64 k, .int .i64 0, .str ⟨#[]⟩, .str ⟨#[]⟩, .ful [a.pv, resT R2] 2]) X := by
  by_cases he : R2.2.2 = 0
  · rw [h0 he]
    unfold resT
    rw [if_pos he]
    exact wk_node k 0 _ _ [a, R2.1] (by simp only [pvs]; exact Wk.ful _ _)
  · rw [h1 he]; exact Wk.any1 rfl

theorem product_step (p : Nat) (l : List Tok) (hl : Sane l) (n : Nat) (i : Int) (ha : AtomC p l n i) (hp : ∀ j, j = (atomF n l i).2.1 + 1 → keyF l (atomF n l i).2.1 b_star = true → ProductC p l n j) : ProductC p l (n + 1) i := by
  rcases hR : atomF n l i with ⟨a, i1, e1⟩
  simp only [AtomC, hR] at ha
  rw [hR] at hp
  simp only at hp
  by_cases hk : e1 = 0 ∧ keyF l i1 b_star = true
  · obtain ⟨rfl, hk⟩ := hk
    have h2 := hp _ rfl hk
    have e : productF (n + 1) l i = (nod 6 ⟨#[]⟩ [a, (productF n l (i1 + 1)).1], (productF n l (i1 + 1)).2.1, (productF n l (i1 + 1)).2.2) := by
      rw [productF, hR]; simp only; rw [if_pos (by simp [hk])]
    simp only [ProductC, e]
    refine Callable.wkRet (product_yes p l i i1 _ _ (resT (a, i1, 0)) _ (resT_one _) (resT_one _) hl ha hk h2) ?_
    exact wk_two 6 a a 0 _ _ (fun h => by unfold resT; simp [h]) (fun h => by unfold resT; simp [h])
  · have e : productF (n + 1) l i = (a, i1, e1) := by
      rw [productF, hR]; simp only; rw [if_neg hk]
    simp only [ProductC, e]
    exact product_no p l i 0 i1 e1 _ hl ha hk
theorem typ_step (p : Nat) (l : List Tok) (hl : Sane l) (n : Nat) (i : Int) (ha : ProductC p l n i) (hp : ∀ j, j = (productF n l i).2.1 + 1 → keyF l (productF n l i).2.1 b_arrow = true → TypC p l n j) : TypC p l (n + 1) i := by
  rcases hR : productF n l i with ⟨a, i1, e1⟩
  simp only [ProductC, hR] at ha
  rw [hR] at hp
  simp only at hp
  by_cases hk : e1 = 0 ∧ keyF l i1 b_arrow = true
  · obtain ⟨rfl, hk⟩ := hk
    have h2 := hp _ rfl hk
    have e : typF (n + 1) l i = (nod 5 ⟨#[]⟩ [a, (typF n l (i1 + 1)).1], (typF n l (i1 + 1)).2.1, (typF n l (i1 + 1)).2.2) := by
      rw [typF, hR]; simp only; rw [if_pos (by simp [hk])]
    simp only [TypC, e]
    refine Callable.wkRet (typ_yes p l i i1 _ _ (resT (a, i1, 0)) _ (resT_one _) (resT_one _) hl ha hk h2) ?_
    exact wk_two 5 a a 0 _ _ (fun h => by unfold resT; simp [h]) (fun h => by unfold resT; simp [h])
  · have e : typF (n + 1) l i = (a, i1, e1) := by
      rw [typF, hR]; simp only; rw [if_neg hk]
    simp only [TypC, e]
    exact typ_no p l i 0 i1 e1 _ hl ha hk
theorem wk_leaf (k : Int) (s : ByteArray) : Wk (.ptr [.int .i64 k, .int .i64 0, .str s, .str ⟨#[]⟩, .nils]) (nod k s []).pv := wk_node k 0 _ _ [] (by simp only [pvs]; exact Wk.nils)
theorem atom_step (p : Nat) (l : List Tok) (hl : Sane l) (n : Nat) (i : Int) (ht : keyF l i b_open = true → TypC p l n (i + 1)) (hc : keyF l i b_mu = true → nameAt l (i + 1) = true → keyF l (i + 2) b_lb = true → ConsC p l n (i + 3)) : AtomC p l (n + 1) i := by
  by_cases c1 : longAt l i = true
  · have e : atomF (n + 1) l i = (nod 4 (textAt l i) [], i + 1, 0) := by rw [atomF, if_pos c1]
    simp only [AtomC, e]
    exact Callable.wkRet (atom_long p l i hl c1) (wk_leaf 4 _)
  by_cases c2 : keyF l i b_int = true
  · have e : atomF (n + 1) l i = (nod 1 ⟨#[]⟩ [], i + 1, 0) := by rw [atomF, if_neg c1, if_pos c2]
    simp only [AtomC, e]
    exact Callable.wkRet (atom_word p l i 1 b_int hl c1 (.inl ⟨rfl, rfl⟩) c2) (wk_leaf 1 _)
  by_cases c3 : keyF l i b_bool = true
  · have e : atomF (n + 1) l i = (nod 2 ⟨#[]⟩ [], i + 1, 0) := by rw [atomF, if_neg c1, if_neg c2, if_pos c3]
    simp only [AtomC, e]
    exact Callable.wkRet (atom_word p l i 2 b_bool hl c1 (.inr (.inl ⟨rfl, rfl, c2⟩)) c3) (wk_leaf 2 _)
  by_cases c4 : keyF l i b_unit = true
  · have e : atomF (n + 1) l i = (nod 3 ⟨#[]⟩ [], i + 1, 0) := by rw [atomF, if_neg c1, if_neg c2, if_neg c3, if_pos c4]
    simp only [AtomC, e]
    exact Callable.wkRet (atom_word p l i 3 b_unit hl c1 (.inr (.inr ⟨rfl, rfl, c2, c3⟩)) c4) (wk_leaf 3 _)
  have hn : NoWord l i := ⟨c1, c2, c3, c4⟩
  by_cases c5 : keyF l i b_open = true
  · have h1 := ht c5
    rcases hR : typF n l (i + 1) with ⟨t, i1, e1⟩
    simp only [TypC, hR] at h1
    by_cases he : e1 = 0
    · subst he
      by_cases hk : keyF l i1 b_close = true
      · have e : atomF (n + 1) l i = (t, i1 + 1, 0) := by
          rw [atomF, if_neg c1, if_neg c2, if_neg c3, if_neg c4, if_pos c5, hR]; simp only; rw [if_neg (by decide), if_pos hk]
        simp only [AtomC, e]
        exact atom_open p l i i1 0 _ hl hn c5 h1 _ _ (pmust_yes p l i1 b_close hl hk)
      · have e : atomF (n + 1) l i = (t, i1, 6) := by
          rw [atomF, if_neg c1, if_neg c2, if_neg c3, if_neg c4, if_pos c5, hR]; simp only; rw [if_neg (by decide), if_neg hk]
        simp only [AtomC, e]
        exact Callable.wkRet (atom_open p l i i1 0 _ hl hn c5 h1 _ _ (pmust_no p l i1 b_close hl hk)) (Wk.any1 (resT_one _))
    · have e : atomF (n + 1) l i = (t, i1, e1) := by
        rw [atomF, if_neg c1, if_neg c2, if_neg c3, if_neg c4, if_pos c5, hR]; simp only; rw [if_pos he]
      simp only [AtomC, e]
      exact atom_open p l i i1 e1 _ hl hn c5 h1 _ _ (pmust_err p l i1 e1 b_close hl he)
  by_cases c6 : keyF l i b_mu = true
  · have e0 : atomF (n + 1) l i = (if nameAt l (i + 1) = true then
        (if keyF l (i + 2) b_lb = true then (match consF n l (i + 3) [] with
          | (c, i1, e1) => if e1 ≠ 0 then (default, i1, e1) else if keyF l i1 b_rb = true then (nod 7 (textAt l (i + 1)) c, i1 + 1, 0) else (default, i1, 6))
        else (default, i + 2, 6))
      else (default, i + 1, 6)) := by
      rw [atomF, if_neg c1, if_neg c2, if_neg c3, if_neg c4, if_neg c5, if_pos c6]
    by_cases d1 : nameAt l (i + 1) = true
    · have i2 : i + 1 + 1 = i + 2 := by omega
      have i3 : i + 2 + 1 = i + 3 := by omega
      have n1 := pname_yes p l (i + 1) hl d1
      rw [i2] at n1
      by_cases d2 : keyF l (i + 2) b_lb = true
      · have m1 := pmust_yes p l (i + 2) b_lb hl d2
        rw [i3] at m1
        have h1 := hc c6 d1 d2
        rw [if_pos d1, if_pos d2] at e0
        rcases hR : consF n l (i + 3) [] with ⟨c, i1, e1⟩
        simp only [ConsC, hR] at h1
        rw [hR] at e0
        simp only at e0
        by_cases he : e1 = 0
        · subst he
          rw [if_neg (by decide)] at e0
          have h1' : resL (c, i1, 0) = .slc (pvs c) c.length := rfl
          by_cases hk : keyF l i1 b_rb = true
          · rw [if_pos hk] at e0
            simp only [AtomC, e0]
            exact Callable.wkRet (atom_mu p l i _ _ _ _ _ _ _ _ _ _ (.inr (.inr (.inr (.inl ⟨_, _, h1'⟩)))) hl hn c5 c6 n1 m1 h1 (pmust_yes p l i1 b_rb hl hk)) (wk_node 7 0 _ _ c (by rw [h1']; exact Wk.refl _))
          · rw [if_neg hk] at e0
            simp only [AtomC, e0]
            exact Callable.wkRet (atom_mu p l i _ _ _ _ _ _ _ _ _ _ (.inr (.inr (.inr (.inl ⟨_, _, h1'⟩)))) hl hn c5 c6 n1 m1 h1 (pmust_no p l i1 b_rb hl hk)) (Wk.any1 rfl)
        · rw [if_pos he] at e0
          simp only [AtomC, e0]
          have h1' : resL (c, i1, e1) = .any1 := if_neg he
          have e3 : resT (default, i1, e1) = .any1 := if_neg he
          rw [e3]
          exact Callable.wkRet (atom_mu p l i _ _ _ _ _ _ _ _ _ _ (.inr (.inr (.inr (.inr h1')))) hl hn c5 c6 n1 m1 h1 (pmust_err p l i1 e1 b_rb hl he)) (Wk.any1 rfl)
      · rw [if_pos d1, if_neg d2] at e0
        simp only [AtomC, e0]
        exact Callable.wkRet (atom_mu p l i _ _ _ _ _ _ _ _ _ _ (.inl rfl) hl hn c5 c6 n1 (pmust_no p l (i + 2) b_lb hl d2) (cons_err p l _ 6 (by decide)) (pmust_err p l _ 6 b_rb hl (by decide))) (Wk.any1 rfl)
    · rw [if_neg d1] at e0
      simp only [AtomC, e0]
      exact Callable.wkRet (atom_mu p l i _ _ _ _ _ _ _ _ _ _ (.inl rfl) hl hn c5 c6 (pname_no p l (i + 1) hl d1) (pmust_err p l _ 6 b_lb hl (by decide)) (cons_err p l _ 6 (by decide)) (pmust_err p l _ 6 b_rb hl (by decide))) (Wk.any1 rfl)
  · have e : atomF (n + 1) l i = (default, i, 6) := by rw [atomF, if_neg c1, if_neg c2, if_neg c3, if_neg c4, if_neg c5, if_neg c6]
    simp only [AtomC, e]
    exact Callable.wkRet (atom_none p l i hl hn c5 c6) (Wk.any1 rfl)
end Go.Proofs.YtceoldiblphahaaGreatDoor
