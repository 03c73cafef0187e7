/- Contracts of the reference's parser of types: all rules, the exported functions. -/
import Derived.Test.YtceoldiblphahaaGreatDoorMqR8
set_option linter.unusedVariables false
set_option linter.unusedSimpArgs false
set_option linter.unusedSectionVars false
namespace Go.Proofs.YtceoldiblphahaaGreatDoor
open Go.Mq
attribute [local irreducible] Ex ExOps QSeq QBlock QLoop QRet OpOk Callable DEx DRd Melt Wk Tree.pv pvs toks opv strs

attribute [local irreducible] nameF wordF checkF longF keyF nameAt longAt typF productF atomF consF
set_option maxHeartbeats 2000000

theorem rproduct_step (l : List Tok) (hl : Sane l) (n : Nat) (i : Int) (hi : i ≤ l.length) (h0 : 0 ≤ i) (ha : RAtom l n i) (hp : ∀ j, j = (atomF n l i).2.1 + 1 → keyF l (atomF n l i).2.1 b_star = true → RProduct l n j) : RProduct l (n + 1) i := by
  rcases hR : atomF n l i with ⟨a, i1, e1⟩
  simp only [RAtom, hR] at ha
  rw [hR] at hp
  simp only at hp
  by_cases hk : e1 = 0 ∧ keyF l i1 b_star = true
  · obtain ⟨rfl, hk⟩ := hk
    have h2 := hp _ rfl hk
    have hin := keyF_in hk
    have hroom := hl.room (Int.le_of_lt hin.2)
    have e : productF (n + 1) l i = (nod 6 ⟨#[]⟩ [a, (productF n l (i1 + 1)).1], (productF n l (i1 + 1)).2.1, (productF n l (i1 + 1)).2.2) := by
      rw [productF, hR]; simp only; rw [if_pos (by simp [hk])]
    simp only [RProduct, e]
    refine Callable.wkRet (rproduct_yes l i i1 _ _ (resT (a, i1, 0)) _ (resT_one _) (resT_one _) ⟨hin.1, hroom⟩ ha hk h2) (Wk.tup (.cons ?_ (WkL.refl _)))
    exact wk_two 6 a a 0 _ _ (fun h => by unfold resT; simp [h]) (fun h => by unfold resT; simp [h])
  · have e : productF (n + 1) l i = (a, i1, e1) := by
      rw [productF, hR]; simp only; rw [if_neg hk]
    simp only [RProduct, e]
    exact rproduct_no l i i1 e1 _ ha hk
theorem rtyp_step (l : List Tok) (hl : Sane l) (n : Nat) (i : Int) (hi : i ≤ l.length) (h0 : 0 ≤ i) (ha : RProduct l n i) (hp : ∀ j, j = (productF n l i).2.1 + 1 → keyF l (productF n l i).2.1 b_arrow = true → RTyp l n j) : RTyp l (n + 1) i := by
  rcases hR : productF n l i with ⟨a, i1, e1⟩
  simp only [RProduct, hR] at ha
  rw [hR] at hp
  simp only at hp
  by_cases hk : e1 = 0 ∧ keyF l i1 b_arrow = true
  · obtain ⟨rfl, hk⟩ := hk
    have h2 := hp _ rfl hk
    have hin := keyF_in hk
    have hroom := hl.room (Int.le_of_lt hin.2)
    have e : typF (n + 1) l i = (nod 5 ⟨#[]⟩ [a, (typF n l (i1 + 1)).1], (typF n l (i1 + 1)).2.1, (typF n l (i1 + 1)).2.2) := by
      rw [typF, hR]; simp only; rw [if_pos (by simp [hk])]
    simp only [RTyp, e]
    refine Callable.wkRet (rtyp_yes l i i1 _ _ (resT (a, i1, 0)) _ (resT_one _) (resT_one _) ⟨hin.1, hroom⟩ ha hk h2) (Wk.tup (.cons ?_ (WkL.refl _)))
    exact wk_two 5 a a 0 _ _ (fun h => by unfold resT; simp [h]) (fun h => by unfold resT; simp [h])
  · have e : typF (n + 1) l i = (a, i1, e1) := by
      rw [typF, hR]; simp only; rw [if_neg hk]
    simp only [RTyp, e]
    exact rtyp_no l i i1 e1 _ ha hk
theorem ratom_step (l : List Tok) (hl : Sane l) (n : Nat) (i : Int) (ht : keyF l i b_open = true → RTyp l n (i + 1)) (hc : keyF l i b_mu = true → nameAt l (i + 1) = true → keyF l (i + 2) b_lb = true → RCons l n (i + 3)) : RAtom l (n + 1) i := by
  by_cases c1 : longAt l i = true
  · have e : atomF (n + 1) l i = (nod 4 (textAt l i) [], i + 1, 0) := by rw [atomF, if_pos c1]
    simp only [RAtom, e]
    exact Callable.wkRet (ratom_long l i hl c1) (Wk.tup (.cons (wk_leaf 4 _) (WkL.refl _)))
  by_cases c2 : keyF l i b_int = true
  · have e : atomF (n + 1) l i = (nod 1 ⟨#[]⟩ [], i + 1, 0) := by rw [atomF, if_neg c1, if_pos c2]
    simp only [RAtom, e]
    exact Callable.wkRet (ratom_word l i 1 b_int hl c1 (.inl ⟨rfl, rfl⟩) c2) (Wk.tup (.cons (wk_leaf 1 _) (WkL.refl _)))
  by_cases c3 : keyF l i b_bool = true
  · have e : atomF (n + 1) l i = (nod 2 ⟨#[]⟩ [], i + 1, 0) := by rw [atomF, if_neg c1, if_neg c2, if_pos c3]
    simp only [RAtom, e]
    exact Callable.wkRet (ratom_word l i 2 b_bool hl c1 (.inr (.inl ⟨rfl, rfl, c2⟩)) c3) (Wk.tup (.cons (wk_leaf 2 _) (WkL.refl _)))
  by_cases c4 : keyF l i b_unit = true
  · have e : atomF (n + 1) l i = (nod 3 ⟨#[]⟩ [], i + 1, 0) := by rw [atomF, if_neg c1, if_neg c2, if_neg c3, if_pos c4]
    simp only [RAtom, e]
    exact Callable.wkRet (ratom_word l i 3 b_unit hl c1 (.inr (.inr ⟨rfl, rfl, c2, c3⟩)) c4) (Wk.tup (.cons (wk_leaf 3 _) (WkL.refl _)))
  have hn : NoWord l i := ⟨c1, c2, c3, c4⟩
  by_cases c5 : keyF l i b_open = true
  · have h1 := ht c5
    rcases hR : typF n l (i + 1) with ⟨t, i1, e1⟩
    simp only [RTyp, hR] at h1
    by_cases he : e1 = 0
    · subst he
      by_cases hk : keyF l i1 b_close = true
      · have e : atomF (n + 1) l i = (t, i1 + 1, 0) := by
          rw [atomF, if_neg c1, if_neg c2, if_neg c3, if_neg c4, if_pos c5, hR]; simp only; rw [if_neg (by decide), if_pos hk]
        simp only [RAtom, e]
        exact ratom_open_yes l i i1 _ hl hn c5 h1 hk
      · have e : atomF (n + 1) l i = (t, i1, 6) := by
          rw [atomF, if_neg c1, if_neg c2, if_neg c3, if_neg c4, if_pos c5, hR]; simp only; rw [if_neg (by decide), if_neg hk]
        simp only [RAtom, e]
        exact Callable.wkRet (ratom_open_no l i i1 _ hl hn c5 h1 hk) (Wk.tup (.cons (Wk.any1 rfl) (WkL.refl _)))
    · have e : atomF (n + 1) l i = (t, i1, e1) := by
        rw [atomF, if_neg c1, if_neg c2, if_neg c3, if_neg c4, if_pos c5, hR]; simp only; rw [if_pos he]
      simp only [RAtom, e]
      have e3 : resT (t, i1, e1) = .any1 := if_neg he
      rw [e3]
      exact Callable.wkRet (ratom_open_err l i i1 e1 _ hl hn c5 h1 he) (Wk.tup (.cons (Wk.any1 rfl) (WkL.refl _)))
  by_cases c6 : keyF l i b_mu = true
  · have e0 : atomF (n + 1) l i = (if nameAt l (i + 1) = true then
        (if keyF l (i + 2) b_lb = true then (match consF n l (i + 3) [] with
          | (c, i1, e1) => if e1 ≠ 0 then (default, i1, e1) else if keyF l i1 b_rb = true then (nod 7 (textAt l (i + 1)) c, i1 + 1, 0) else (default, i1, 6))
        else (default, i + 2, 6))
      else (default, i + 1, 6)) := by
      rw [atomF, if_neg c1, if_neg c2, if_neg c3, if_neg c4, if_neg c5, if_pos c6]
    by_cases d1 : nameAt l (i + 1) = true
    · by_cases d2 : keyF l (i + 2) b_lb = true
      · have h1 := hc c6 d1 d2
        rw [if_pos d1, if_pos d2] at e0
        rcases hR : consF n l (i + 3) [] with ⟨c, i1, e1⟩
        simp only [RCons, hR] at h1
        rw [hR] at e0
        simp only at e0
        by_cases he : e1 = 0
        · subst he
          rw [if_neg (by decide)] at e0
          have h1' : consPV 0 c = .slc (pvs c) c.length := rfl
          rw [h1'] at h1
          by_cases hk : keyF l i1 b_rb = true
          · rw [if_pos hk] at e0
            simp only [RAtom, e0]
            exact Callable.wkRet (ratom_mu_yes l i i1 _ _ hl hn c5 c6 d1 d2 h1 hk) (Wk.tup (.cons (wk_node 7 0 _ _ c (Wk.refl _)) (WkL.refl _)))
          · rw [if_neg hk] at e0
            simp only [RAtom, e0]
            exact Callable.wkRet (ratom_mu_norb l i i1 _ hl hn c5 c6 d1 d2 h1 hk) (Wk.tup (.cons (Wk.any1 rfl) (WkL.refl _)))
        · rw [if_pos he] at e0
          simp only [RAtom, e0]
          have e3 : resT (default, i1, e1) = .any1 := if_neg he
          rw [e3]
          exact Callable.wkRet (ratom_mu_err l i i1 e1 _ hl hn c5 c6 d1 d2 h1 he) (Wk.tup (.cons (Wk.any1 rfl) (WkL.refl _)))
      · rw [if_pos d1, if_neg d2] at e0
        simp only [RAtom, e0]
        exact Callable.wkRet (ratom_mu_nolb l i hl hn c5 c6 d1 d2) (Wk.tup (.cons (Wk.any1 rfl) (WkL.refl _)))
    · rw [if_neg d1] at e0
      simp only [RAtom, e0]
      exact Callable.wkRet (ratom_mu_noname l i hl hn c5 c6 d1) (Wk.tup (.cons (Wk.any1 rfl) (WkL.refl _)))
  · have e : atomF (n + 1) l i = (default, i, 6) := by rw [atomF, if_neg c1, if_neg c2, if_neg c3, if_neg c4, if_neg c5, if_neg c6]
    simp only [RAtom, e]
    exact Callable.wkRet (ratom_none l i hl hn c5 c6) (Wk.tup (.cons (Wk.any1 rfl) (WkL.refl _)))

theorem rparse_ok (l : List Tok) (hl : Sane l) : ∀ N : Nat, (∀ i, Room l 3 N i → RTyp l N i) ∧ (∀ i, Room l 2 N i → RProduct l N i) ∧ (∀ i, Room l 1 N i → RAtom l N i) ∧ (∀ i, Room l 1 N i → RCons l N i) := by
  intro N
  induction N using Nat.strongRecOn with
  | ind N ih =>
    rcases N with _ | n
    · refine ⟨fun i h => ?_, fun i h => ?_, fun i h => ?_, fun i h => ?_⟩ <;> (obtain ⟨⟨h1, h2⟩, h3⟩ := h; exfalso; simp only [Int.natCast_zero, Int.ofNat_zero, Int.natCast_zero] at h3; omega)
    · obtain ⟨it, ip, ia, ic⟩ := ih n (by omega)
      obtain ⟨pt, pp, pa, pc⟩ := parse_in l n
      refine ⟨fun i h => ?_, fun i h => ?_, fun i h => ?_, fun i h => ?_⟩
      · obtain ⟨⟨h1, h2⟩, h3⟩ := h
        refine rtyp_step l hl n i h2 h1 (ip i ⟨⟨h1, h2⟩, by omega⟩) (fun j hj hk => ?_)
        have h4 := keyF_in hk
        have h5 := pp i h2
        exact it j ⟨⟨by omega, by omega⟩, by omega⟩
      · obtain ⟨⟨h1, h2⟩, h3⟩ := h
        refine rproduct_step l hl n i h2 h1 (ia i ⟨⟨h1, h2⟩, by omega⟩) (fun j hj hk => ?_)
        have h4 := keyF_in hk
        have h5 := pa i h2
        exact ip j ⟨⟨by omega, by omega⟩, by omega⟩
      · obtain ⟨⟨h1, h2⟩, h3⟩ := h
        refine ratom_step l hl n i (fun hk => ?_) (fun hk hn hb => ?_)
        · have h4 := keyF_in hk
          exact it _ ⟨⟨by omega, by omega⟩, by omega⟩
        · have h4 := keyF_in hb
          exact ic _ ⟨⟨by omega, by omega⟩, by omega⟩
      · exact rcons_ok l hl (n + 1) i h (fun k j hk hj => (ih k (by omega)).1 j hj)

theorem rtype_ok (l : List Tok) (i : Int) (hl : Sane l) : Callable Tryz.prog 12 [.slc (toks l) l.length, .int .i64 (i)] [] (Ret (.tup [opv (typeF l i).1, .int .i64 ((typeF l i).2.1), .int .i64 ((typeF l i).2.2)]) []) := by
  have hlen := hl.1
  by_cases hi : i < 0 ∨ i > l.length
  · have e : typeF l i = (none, 0, 2) := if_pos hi
    rw [e]
    refine Callable.of_ex tOk [.tmp 4, .tmp 5, .tmp 6] Tryz.func12 rfl rfl rfl (Nat.le_of_ble_eq_true rfl) ?_
    repeat' (first
      | (refine Ex.g ?_; first | refine Ex.seq ?_ | refine Ex.region ?_ | refine Ex.skip ?_ | refine Ex.ret ?_ | refine Ex.exit ?_ | (refine Ex.gCond ?_; first | refine Ex.condT rfl ?_ | refine Ex.condF rfl ?_ | refine Ex.condD rfl (fun hc => ?_) (fun hc => ?_) | refine Ex.condN rfl (fun hc => ?_) (fun hc => ?_) | refine Ex.cond rfl (fun hc => ?_) (fun hc => ?_)))
      | refine ExOps.nil ?_
      | (refine ExOps.gPC ?_; first | refine ExOps.opR (OpOk.len tOk rfl rfl rfl) rfl ?_)
      | (refine ExOps.gP ?_; first | (refine ExOps.gB ?_; refine ExOps.calcE tOk rfl rfl (by conv => lhs; simp [pev, upd, PV.cells, argSlots]) ?_) | refine ExOps.calcE tOk rfl rfl (by conv => lhs; whnf) ?_)
      | (refine ExOps.gG ?_; first | (refine ExOps.gIn rfl rfl ?_; first | (refine ExOps.gGC ?_; first | refine ExOps.opRG rfl rfl rfl (OpOk.len tOk rfl rfl rfl) rfl ?_) | (first | refine ExOps.calcGE tOk rfl rfl rfl rfl rfl (by conv => lhs; whnf) ?_)) | refine ExOps.skipGU rfl rfl rfl rfl ?_ | refine ExOps.skipU rfl rfl rfl ?_ | (refine ExOps.gOr4 ?_; refine' ExOps.or4 tOk rfl rfl rfl rfl rfl rfl rfl (by first | rfl | exact isDec _) (fun hg => ?_) ?_; rotate_left 3) | ((fail_if_success refine ExOps.gIn rfl rfl ?_); first | refine ExOps.guardD rfl rfl rfl (fun hg => ?_) (fun hg => ?_) | refine ExOps.guard rfl rfl rfl (fun hg => ?_) (fun hg => ?_)))
      | (refine QSeq.g ?_; first | refine QSeq.norm ?_ | refine QSeq.ret ?_ | refine QSeq.exit ?_)
      | (refine QRet.g ?_; (first | ((first | refine QRet.end_ (.cons (.tmpE (by conv => lhs; whnf)) (.cons (.tmpE (by conv => lhs; whnf)) (.cons (.tmpE (by conv => lhs; whnf)) .nil))) ?_ | refine QRet.endN (.cons (.tmpE (by conv => lhs; whnf)) (.cons (.tmpE (by conv => lhs; whnf)) (.cons (.tmpE (by conv => lhs; whnf)) .nil))) ?_); try (focus first | rfl | (simp only [opv]; rfl; done))) | ((first | refine QRet.same (.cons (.tmpE (by conv => lhs; whnf)) (.cons (.tmpE (by conv => lhs; whnf)) (.cons (.tmpE (by conv => lhs; whnf)) .nil))) ?_ ?_ | refine QRet.sameN (.cons (.tmpE (by conv => lhs; whnf)) (.cons (.tmpE (by conv => lhs; whnf)) (.cons (.tmpE (by conv => lhs; whnf)) .nil))) ?_ ?_); try (rotate_left; (focus first | rfl | (simp only [opv]; rfl; done)); try (focus first | rfl | (simp only [opv]; rfl; done))))))
      | refine ⟨rfl, (by first | rfl | exact isDec _), (by (repeat' (first | exact WkS.refl _ | refine WkS.upd ?_ Wk.junk)); first | done | fail), rfl⟩
      | fail)
    all_goals (exfalso; omega)
  · have ht := (rparse_ok l hl (fuelAt l i)).1 i (room_fuel hi 3 (by decide))
    have e : typeF l i = if (typF (fuelAt l i) l i).2.2 = 0 then (some (typF (fuelAt l i) l i).1, (typF (fuelAt l i) l i).2.1, 0) else (none, (typF (fuelAt l i) l i).2.1, (typF (fuelAt l i) l i).2.2) := if_neg hi
    rcases hR : typF (fuelAt l i) l i with ⟨t, i1, e1⟩
    rw [hR] at e
    simp only [RTyp, hR] at ht
    simp only at e
    rw [e]
    by_cases he : e1 = 0
    · rw [if_pos he]
      subst he
      have htt : resT (t, i1, 0) = t.pv := rfl
      rw [htt] at ht
      refine Callable.of_ex tOk [.tmp 4, .tmp 5, .tmp 6] Tryz.func12 rfl rfl rfl (Nat.le_of_ble_eq_true rfl) ?_
      repeat' (first
        | (refine Ex.g ?_; first | refine Ex.seq ?_ | refine Ex.region ?_ | refine Ex.skip ?_ | refine Ex.ret ?_ | refine Ex.exit ?_ | (refine Ex.gCond ?_; first | refine Ex.condT rfl ?_ | refine Ex.condF rfl ?_ | refine Ex.condD rfl (fun hc => ?_) (fun hc => ?_) | refine Ex.condN rfl (fun hc => ?_) (fun hc => ?_) | refine Ex.cond rfl (fun hc => ?_) (fun hc => ?_)))
        | refine ExOps.nil ?_
        | (refine ExOps.gPC ?_; first | refine ExOps.opR (OpOk.len tOk rfl rfl rfl) rfl ?_ | refine ExOps.opR (.cp rfl rfl rfl (h := ht)) rfl ?_)
        | (refine ExOps.gP ?_; first | (refine ExOps.gB ?_; refine ExOps.calcE tOk rfl rfl (by conv => lhs; simp [pev, upd, PV.cells, argSlots]) ?_) | refine ExOps.calcE tOk rfl rfl (by conv => lhs; whnf) ?_)
        | (refine ExOps.gG ?_; first | (refine ExOps.gIn rfl rfl ?_; first | (refine ExOps.gGC ?_; first | refine ExOps.opRG rfl rfl rfl (OpOk.len tOk rfl rfl rfl) rfl ?_ | refine ExOps.opRG rfl rfl rfl (.cp rfl rfl rfl (h := ht)) rfl ?_) | (first | refine ExOps.calcGE tOk rfl rfl rfl rfl rfl (by conv => lhs; whnf) ?_)) | refine ExOps.skipGU rfl rfl rfl rfl ?_ | refine ExOps.skipU rfl rfl rfl ?_ | (refine ExOps.gOr4 ?_; refine' ExOps.or4 tOk rfl rfl rfl rfl rfl rfl rfl (by first | rfl | exact isDec _) (fun hg => ?_) ?_; rotate_left 3) | ((fail_if_success refine ExOps.gIn rfl rfl ?_); first | refine ExOps.guardD rfl rfl rfl (fun hg => ?_) (fun hg => ?_) | refine ExOps.guard rfl rfl rfl (fun hg => ?_) (fun hg => ?_)))
        | (refine QSeq.g ?_; first | refine QSeq.norm ?_ | refine QSeq.ret ?_ | refine QSeq.exit ?_)
        | (refine QRet.g ?_; (first | ((first | refine QRet.end_ (.cons (.tmpE (by conv => lhs; whnf)) (.cons (.tmpE (by conv => lhs; whnf)) (.cons (.tmpE (by conv => lhs; whnf)) .nil))) ?_ | refine QRet.endN (.cons (.tmpE (by conv => lhs; whnf)) (.cons (.tmpE (by conv => lhs; whnf)) (.cons (.tmpE (by conv => lhs; whnf)) .nil))) ?_); try (focus first | rfl | (simp only [opv]; rfl; done))) | ((first | refine QRet.same (.cons (.tmpE (by conv => lhs; whnf)) (.cons (.tmpE (by conv => lhs; whnf)) (.cons (.tmpE (by conv => lhs; whnf)) .nil))) ?_ ?_ | refine QRet.sameN (.cons (.tmpE (by conv => lhs; whnf)) (.cons (.tmpE (by conv => lhs; whnf)) (.cons (.tmpE (by conv => lhs; whnf)) .nil))) ?_ ?_); try (rotate_left; (focus first | rfl | (simp only [opv]; rfl; done)); try (focus first | rfl | (simp only [opv]; rfl; done))))))
        | refine ⟨rfl, (by first | rfl | exact isDec _), (by (repeat' (first | exact WkS.refl _ | refine WkS.upd ?_ Wk.junk)); first | done | fail), rfl⟩
        | fail)
      all_goals (exfalso; omega)
    · rw [if_neg he]
      refine Callable.of_ex tOk [.tmp 4, .tmp 5, .tmp 6] Tryz.func12 rfl rfl rfl (Nat.le_of_ble_eq_true rfl) ?_
      repeat' (first
        | (refine Ex.g ?_; first | refine Ex.seq ?_ | refine Ex.region ?_ | refine Ex.skip ?_ | refine Ex.ret ?_ | refine Ex.exit ?_ | (refine Ex.gCond ?_; first | refine Ex.condT rfl ?_ | refine Ex.condF rfl ?_ | refine Ex.condD rfl (fun hc => ?_) (fun hc => ?_) | refine Ex.condN rfl (fun hc => ?_) (fun hc => ?_) | refine Ex.cond rfl (fun hc => ?_) (fun hc => ?_)))
        | refine ExOps.nil ?_
        | (refine ExOps.gPC ?_; first | refine ExOps.opR (OpOk.len tOk rfl rfl rfl) rfl ?_ | refine ExOps.opR (.cp rfl rfl rfl (h := ht)) rfl ?_)
        | (refine ExOps.gP ?_; first | (refine ExOps.gB ?_; refine ExOps.calcE tOk rfl rfl (by conv => lhs; simp [pev, upd, PV.cells, argSlots]) ?_) | refine ExOps.calcE tOk rfl rfl (by conv => lhs; whnf) ?_)
        | (refine ExOps.gG ?_; first | (refine ExOps.gIn rfl rfl ?_; first | (refine ExOps.gGC ?_; first | refine ExOps.opRG rfl rfl rfl (OpOk.len tOk rfl rfl rfl) rfl ?_ | refine ExOps.opRG rfl rfl rfl (.cp rfl rfl rfl (h := ht)) rfl ?_) | (first | refine ExOps.calcGE tOk rfl rfl rfl rfl rfl (by conv => lhs; whnf) ?_)) | refine ExOps.skipGU rfl rfl rfl rfl ?_ | refine ExOps.skipU rfl rfl rfl ?_ | (refine ExOps.gOr4 ?_; refine' ExOps.or4 tOk rfl rfl rfl rfl rfl rfl rfl (by first | rfl | exact isDec _) (fun hg => ?_) ?_; rotate_left 3) | ((fail_if_success refine ExOps.gIn rfl rfl ?_); first | refine ExOps.guardD rfl rfl rfl (fun hg => ?_) (fun hg => ?_) | refine ExOps.guard rfl rfl rfl (fun hg => ?_) (fun hg => ?_)))
        | (refine QSeq.g ?_; first | refine QSeq.norm ?_ | refine QSeq.ret ?_ | refine QSeq.exit ?_)
        | (refine QRet.g ?_; (first | ((first | refine QRet.end_ (.cons (.tmpE (by conv => lhs; whnf)) (.cons (.tmpE (by conv => lhs; whnf)) (.cons (.tmpE (by conv => lhs; whnf)) .nil))) ?_ | refine QRet.endN (.cons (.tmpE (by conv => lhs; whnf)) (.cons (.tmpE (by conv => lhs; whnf)) (.cons (.tmpE (by conv => lhs; whnf)) .nil))) ?_); try (focus first | rfl | (simp only [opv]; rfl; done))) | ((first | refine QRet.same (.cons (.tmpE (by conv => lhs; whnf)) (.cons (.tmpE (by conv => lhs; whnf)) (.cons (.tmpE (by conv => lhs; whnf)) .nil))) ?_ ?_ | refine QRet.sameN (.cons (.tmpE (by conv => lhs; whnf)) (.cons (.tmpE (by conv => lhs; whnf)) (.cons (.tmpE (by conv => lhs; whnf)) .nil))) ?_ ?_); try (rotate_left; (focus first | rfl | (simp only [opv]; rfl; done)); try (focus first | rfl | (simp only [opv]; rfl; done))))))
        | refine ⟨rfl, (by first | rfl | exact isDec _), (by (repeat' (first | exact WkS.refl _ | refine WkS.upd ?_ Wk.junk)); first | done | fail), rfl⟩
        | fail)
      all_goals first | (exfalso; omega) | exact absurd he ‹¬ e1 ≠ 0›
theorem rcons2_ok (l : List Tok) (i : Int) (hl : Sane l) : Callable Tryz.prog 14 [.slc (toks l) l.length, .int .i64 (i)] [] (Ret (.tup [consPV (consG l i).2.2 (consG l i).1, .int .i64 ((consG l i).2.1), .int .i64 ((consG l i).2.2)]) []) := by
  have hlen := hl.1
  by_cases hi : i < 0 ∨ i > l.length
  · have e : consG l i = ([], 0, 2) := if_pos hi
    rw [e]
    refine Callable.of_ex tOk [.tmp 4, .tmp 5, .tmp 6] Tryz.func14 rfl rfl rfl (Nat.le_of_ble_eq_true rfl) ?_
    repeat' (first
      | (refine Ex.g ?_; first | refine Ex.seq ?_ | refine Ex.region ?_ | refine Ex.skip ?_ | refine Ex.ret ?_ | refine Ex.exit ?_ | (refine Ex.gCond ?_; first | refine Ex.condT rfl ?_ | refine Ex.condF rfl ?_ | refine Ex.condD rfl (fun hc => ?_) (fun hc => ?_) | refine Ex.condN rfl (fun hc => ?_) (fun hc => ?_) | refine Ex.cond rfl (fun hc => ?_) (fun hc => ?_)))
      | refine ExOps.nil ?_
      | (refine ExOps.gPC ?_; first | refine ExOps.opR (OpOk.len tOk rfl rfl rfl) rfl ?_)
      | (refine ExOps.gP ?_; first | (refine ExOps.gB ?_; refine ExOps.calcE tOk rfl rfl (by conv => lhs; simp [pev, upd, PV.cells, argSlots]) ?_) | refine ExOps.calcE tOk rfl rfl (by conv => lhs; whnf) ?_)
      | (refine ExOps.gG ?_; first | (refine ExOps.gIn rfl rfl ?_; first | (refine ExOps.gGC ?_; first | refine ExOps.opRG rfl rfl rfl (OpOk.len tOk rfl rfl rfl) rfl ?_) | (first | refine ExOps.calcGE tOk rfl rfl rfl rfl rfl (by conv => lhs; whnf) ?_)) | refine ExOps.skipGU rfl rfl rfl rfl ?_ | refine ExOps.skipU rfl rfl rfl ?_ | (refine ExOps.gOr4 ?_; refine' ExOps.or4 tOk rfl rfl rfl rfl rfl rfl rfl (by first | rfl | exact isDec _) (fun hg => ?_) ?_; rotate_left 3) | ((fail_if_success refine ExOps.gIn rfl rfl ?_); first | refine ExOps.guardD rfl rfl rfl (fun hg => ?_) (fun hg => ?_) | refine ExOps.guard rfl rfl rfl (fun hg => ?_) (fun hg => ?_)))
      | (refine QSeq.g ?_; first | refine QSeq.norm ?_ | refine QSeq.ret ?_ | refine QSeq.exit ?_)
      | (refine QRet.g ?_; (first | ((first | refine QRet.end_ (.cons (.tmpE (by conv => lhs; whnf)) (.cons (.tmpE (by conv => lhs; whnf)) (.cons (.tmpE (by conv => lhs; whnf)) .nil))) ?_ | refine QRet.endN (.cons (.tmpE (by conv => lhs; whnf)) (.cons (.tmpE (by conv => lhs; whnf)) (.cons (.tmpE (by conv => lhs; whnf)) .nil))) ?_); try (focus first | rfl | (rfl; done))) | ((first | refine QRet.same (.cons (.tmpE (by conv => lhs; whnf)) (.cons (.tmpE (by conv => lhs; whnf)) (.cons (.tmpE (by conv => lhs; whnf)) .nil))) ?_ ?_ | refine QRet.sameN (.cons (.tmpE (by conv => lhs; whnf)) (.cons (.tmpE (by conv => lhs; whnf)) (.cons (.tmpE (by conv => lhs; whnf)) .nil))) ?_ ?_); try (rotate_left; (focus first | rfl | (rfl; done)); try (focus first | rfl | (rfl; done))))))
      | refine ⟨rfl, (by first | rfl | exact isDec _), (by (repeat' (first | exact WkS.refl _ | refine WkS.upd ?_ Wk.junk)); first | done | fail), rfl⟩
      | fail)
    all_goals (exfalso; omega)
  · have ht := (rparse_ok l hl (fuelAt l i)).2.2.2 i (room_fuel hi 1 (by decide))
    have e : consG l i = if (consF (fuelAt l i) l i []).2.2 = 0 then ((consF (fuelAt l i) l i []).1, (consF (fuelAt l i) l i []).2.1, 0) else ([], (consF (fuelAt l i) l i []).2.1, (consF (fuelAt l i) l i []).2.2) := if_neg hi
    rcases hR : consF (fuelAt l i) l i [] with ⟨c, i1, e1⟩
    rw [hR] at e
    simp only [RCons, hR] at ht
    simp only at e
    rw [e]
    have ht2 : Callable Tryz.prog 33 [.slc (toks l) l.length, .int .i64 (i)] [] (Ret (.tup [consPV e1 (if e1 = 0 then (c, i1, (0 : Int)) else ([], i1, e1)).1, .int .i64 (i1), .int .i64 (e1)]) []) := by
      by_cases he : e1 = 0
      · rw [if_pos he]; exact ht
      · rw [if_neg he]
        have e2 : consPV e1 [] = consPV e1 c := by unfold consPV; rw [if_neg he, if_neg he]
        rw [e2]; exact ht
    clear ht
    have e3 : (if e1 = 0 then (c, i1, (0 : Int)) else ([], i1, e1)).2.1 = i1 := by split <;> rfl
    have e4 : (if e1 = 0 then (c, i1, (0 : Int)) else ([], i1, e1)).2.2 = e1 := by split <;> simp_all
    rw [e3, e4]
    generalize (if e1 = 0 then (c, i1, (0 : Int)) else ([], i1, e1)).1 = c' at ht2 ⊢
    have hx : (consPV e1 c').one = true := by unfold consPV; split <;> rfl
    generalize consPV e1 c' = X at ht2 hx ⊢
    refine Callable.of_ex tOk [.tmp 4, .tmp 5, .tmp 6] Tryz.func14 rfl rfl rfl (Nat.le_of_ble_eq_true rfl) ?_
    repeat' (first
      | (refine Ex.g ?_; first | refine Ex.seq ?_ | refine Ex.region ?_ | refine Ex.skip ?_ | refine Ex.ret ?_ | refine Ex.exit ?_ | (refine Ex.gCond ?_; first | refine Ex.condT rfl ?_ | refine Ex.condF rfl ?_ | refine Ex.condD rfl (fun hc => ?_) (fun hc => ?_) | refine Ex.condN rfl (fun hc => ?_) (fun hc => ?_) | refine Ex.cond rfl (fun hc => ?_) (fun hc => ?_)))
      | refine ExOps.nil ?_
      | (refine ExOps.gPC ?_; first | refine ExOps.opR (OpOk.len tOk rfl rfl rfl) rfl ?_ | refine ExOps.opR (.cp rfl rfl rfl (h := ht2)) rfl ?_)
      | (refine ExOps.gP ?_; first | (refine ExOps.gB ?_; refine ExOps.calcE tOk rfl rfl (by conv => lhs; simp [pev, upd, PV.cells, argSlots]) ?_) | refine ExOps.calcE tOk rfl rfl (by conv => lhs; whnf) ?_)
      | (refine ExOps.gG ?_; first | (refine ExOps.gIn rfl rfl ?_; first | (refine ExOps.gGC ?_; first | refine ExOps.opRG rfl rfl rfl (OpOk.len tOk rfl rfl rfl) rfl ?_ | refine ExOps.opRG rfl rfl rfl (.cp rfl rfl rfl (h := ht2)) rfl ?_) | (first | refine ExOps.calcGE tOk rfl rfl rfl rfl rfl (by conv => lhs; whnf) ?_)) | refine ExOps.skipGU rfl rfl rfl rfl ?_ | refine ExOps.skipU rfl rfl rfl ?_ | (refine ExOps.gOr4 ?_; refine' ExOps.or4 tOk rfl rfl rfl rfl rfl rfl rfl (by first | rfl | exact isDec _) (fun hg => ?_) ?_; rotate_left 3) | ((fail_if_success refine ExOps.gIn rfl rfl ?_); first | refine ExOps.guardD rfl rfl rfl (fun hg => ?_) (fun hg => ?_) | refine ExOps.guard rfl rfl rfl (fun hg => ?_) (fun hg => ?_)))
      | (refine QSeq.g ?_; first | refine QSeq.norm ?_ | refine QSeq.ret ?_ | refine QSeq.exit ?_)
      | (refine QRet.g ?_; (first | ((first | refine QRet.end_ (.cons (.tmpE (by conv => lhs; whnf)) (.cons (.tmpE (by conv => lhs; whnf)) (.cons (.tmpE (by conv => lhs; whnf)) .nil))) ?_ | refine QRet.endN (.cons (.tmpE (by conv => lhs; whnf)) (.cons (.tmpE (by conv => lhs; whnf)) (.cons (.tmpE (by conv => lhs; whnf)) .nil))) ?_); try (focus first | rfl | (rfl; done))) | ((first | refine QRet.same (.cons (.tmpE (by conv => lhs; whnf)) (.cons (.tmpE (by conv => lhs; whnf)) (.cons (.tmpE (by conv => lhs; whnf)) .nil))) ?_ ?_ | refine QRet.sameN (.cons (.tmpE (by conv => lhs; whnf)) (.cons (.tmpE (by conv => lhs; whnf)) (.cons (.tmpE (by conv => lhs; whnf)) .nil))) ?_ ?_); try (rotate_left; (focus first | rfl | (rfl; done)); try (focus first | rfl | (rfl; done))))))
      | refine ⟨rfl, (by first | rfl | exact isDec _), (by (repeat' (first | exact WkS.refl _ | refine WkS.upd ?_ Wk.junk)); first | done | fail), rfl⟩
      | fail)
    all_goals (exfalso; omega)
end Go.Proofs.YtceoldiblphahaaGreatDoor
