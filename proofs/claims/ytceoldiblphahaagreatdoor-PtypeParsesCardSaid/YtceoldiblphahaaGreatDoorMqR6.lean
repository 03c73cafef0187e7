/- Contracts of the reference's parser of types, case by case. -/
import Derived.Test.YtceoldiblphahaaGreatDoorMqN3
import Derived.Test.YtceoldiblphahaaGreatDoorMqW6
set_option linter.unusedVariables false
set_option linter.unusedSimpArgs false
set_option linter.unusedSectionVars false
namespace Go.Proofs.YtceoldiblphahaaGreatDoor
open Go.Mq
attribute [local irreducible] Ex ExOps QSeq QBlock QLoop QRet OpOk Callable DEx DRd Melt Wk Tree.pv pvs toks opv strs

attribute [local irreducible] nameF wordF checkF longF keyF nameAt longAt typF productF atomF consF
set_option maxHeartbeats 2000000

theorem rkey_ok (l : List Tok) (i : Int) (x : ByteArray) : Callable Tryz.prog 22 [.slc (toks l) l.length, .int .i64 i, .str x] [] (Ret (.bool (keyF l i x)) []) := by
  refine Callable.of_ex tOk [.tmp 6] Tryz.func22 rfl rfl rfl (Nat.le_of_ble_eq_true rfl) ?_
  repeat' (first
    | (refine Ex.g ?_; first | refine Ex.seq ?_ | refine Ex.region ?_ | refine Ex.skip ?_ | refine Ex.ret ?_ | refine Ex.exit ?_ | (refine Ex.gCond ?_; first | refine Ex.condT rfl ?_ | refine Ex.condF rfl ?_ | refine Ex.condD rfl (fun hc => ?_) (fun hc => ?_) | refine Ex.condN rfl (fun hc => ?_) (fun hc => ?_) | refine Ex.cond rfl (fun hc => ?_) (fun hc => ?_)))
    | refine ExOps.nil ?_
    | (refine ExOps.gPC ?_; first | refine ExOps.opR (OpOk.len tOk rfl rfl rfl) rfl ?_)
    | (refine ExOps.gP ?_; first | (refine ExOps.gB ?_; refine ExOps.calcE tOk rfl rfl (by conv => lhs; simp [pev, upd, PV.cells, argSlots]) ?_) | refine ExOps.calcE tOk rfl rfl (by conv => lhs; whnf) ?_ | refine ExOps.opR (OpOk.indexTok tOk rfl rfl rfl rfl rfl rfl rfl (by omega) (by omega) (by omega)) rfl ?_)
    | (refine ExOps.gG ?_; first | (refine ExOps.gIn rfl rfl ?_; first | (refine ExOps.gGC ?_; first | refine ExOps.opRG rfl rfl rfl (OpOk.len tOk rfl rfl rfl) rfl ?_) | (first | refine ExOps.calcGE tOk rfl rfl rfl rfl rfl (by conv => lhs; whnf) ?_ | refine ExOps.opRG rfl rfl rfl (OpOk.indexTok tOk rfl rfl rfl rfl rfl rfl rfl (by omega) (by omega) (by omega)) rfl ?_)) | refine ExOps.skipGU rfl rfl rfl rfl ?_ | refine ExOps.skipU rfl rfl rfl ?_ | (refine ExOps.gAnd4 ?_; refine' ExOps.and4 tOk rfl rfl rfl rfl rfl rfl rfl (by first | rfl | exact isDec _) (fun hg => ?_) ?_; rotate_left 3) | (refine ExOps.gAnd6 ?_; refine' ExOps.and6 tOk rfl rfl rfl rfl rfl rfl rfl (by first | rfl | exact isDec _) (fun hg => ?_) ?_; rotate_left 3) | (refine ExOps.gAnd7 ?_; refine' ExOps.and7 tOk rfl rfl rfl rfl rfl rfl rfl (by first | rfl | exact isDec _) (fun hg => ?_) ?_; rotate_left 3) | ((fail_if_success refine ExOps.gIn rfl rfl ?_); first | refine ExOps.guardD rfl rfl rfl (fun hg => ?_) (fun hg => ?_) | refine ExOps.guard rfl rfl rfl (fun hg => ?_) (fun hg => ?_)))
    | (refine QSeq.g ?_; first | refine QSeq.norm ?_ | refine QSeq.ret ?_ | refine QSeq.exit ?_)
    | (refine QRet.g ?_; (first | ((first | refine QRet.end_ (.cons (.tmpE (by conv => lhs; whnf)) .nil) ?_ | refine QRet.endN (.cons (.tmpE (by conv => lhs; whnf)) .nil) ?_); try (focus first | rfl | (unfold keyF; rfl; done))) | ((first | refine QRet.same (.cons (.tmpE (by conv => lhs; whnf)) .nil) ?_ ?_ | refine QRet.sameN (.cons (.tmpE (by conv => lhs; whnf)) .nil) ?_ ?_); try (rotate_left; (focus first | rfl | (unfold keyF; rfl; done)); try (focus first | rfl | (unfold keyF; rfl; done))))))
    | refine ⟨rfl, (by first | rfl | exact isDec _), (by (repeat' (first | exact WkS.refl _ | refine WkS.upd ?_ Wk.junk)); first | done | fail), rfl⟩
    | fail)
theorem rkey_yes (l : List Tok) (i : Int) (x : ByteArray) (h : keyF l i x = true) : Callable Tryz.prog 22 [.slc (toks l) l.length, .int .i64 i, .str x] [] (Ret (.bool true) []) := h ▸ rkey_ok l i x
theorem rkey_no (l : List Tok) (i : Int) (x : ByteArray) (h : ¬ keyF l i x = true) : Callable Tryz.prog 22 [.slc (toks l) l.length, .int .i64 i, .str x] [] (Ret (.bool false) []) := Bool.eq_false_iff.2 h ▸ rkey_ok l i x
theorem rname_at (l : List Tok) (i : Int) (hl : Sane l) : Callable Tryz.prog 16 [.slc (toks l) l.length, .int .i64 i] [] (Ret (.tup [.str (if nameAt l i = true then textAt l i else ⟨#[]⟩), .bool (nameAt l i)]) []) := by
  refine Callable.of_ex tOk [.tmp 4, .tmp 5] Tryz.func16 rfl rfl rfl (Nat.le_of_ble_eq_true rfl) ?_
  repeat' (first
    | (refine Ex.g ?_; first | refine Ex.seq ?_ | refine Ex.region ?_ | refine Ex.skip ?_ | refine Ex.ret ?_ | refine Ex.exit ?_ | (refine Ex.gCond ?_; first | refine Ex.condT rfl ?_ | refine Ex.condF rfl ?_ | refine Ex.condD rfl (fun hc => ?_) (fun hc => ?_) | refine Ex.condN rfl (fun hc => ?_) (fun hc => ?_) | refine Ex.cond rfl (fun hc => ?_) (fun hc => ?_)))
    | refine ExOps.nil ?_
    | (refine ExOps.gPC ?_; first | refine ExOps.opR (OpOk.len tOk rfl rfl rfl) rfl ?_ | refine ExOps.opR (.cp rfl rfl rfl (h := rcheck_ok _ (hl.short (by simp at *; omega) (by simp at *; omega)))) rfl ?_)
    | (refine ExOps.gP ?_; first | (refine ExOps.gB ?_; refine ExOps.calcE tOk rfl rfl (by conv => lhs; simp [pev, upd, PV.cells, argSlots]) ?_) | refine ExOps.calcE tOk rfl rfl (by conv => lhs; whnf) ?_ | refine ExOps.opR (OpOk.indexTok tOk rfl rfl rfl rfl rfl rfl rfl (by simp at *; omega) (by simp at *; omega) (by omega)) rfl ?_)
    | (refine ExOps.gG ?_; first | (refine ExOps.gIn rfl rfl ?_; first | (refine ExOps.gGC ?_; first | refine ExOps.opRG rfl rfl rfl (OpOk.len tOk rfl rfl rfl) rfl ?_ | refine ExOps.opRG rfl rfl rfl (.cp rfl rfl rfl (h := rcheck_ok _ (hl.short (by simp at *; omega) (by simp at *; omega)))) rfl ?_) | (first | refine ExOps.calcGE tOk rfl rfl rfl rfl rfl (by conv => lhs; whnf) ?_ | refine ExOps.opRG rfl rfl rfl (OpOk.indexTok tOk rfl rfl rfl rfl rfl rfl rfl (by simp at *; omega) (by simp at *; omega) (by omega)) rfl ?_)) | refine ExOps.skipGU rfl rfl rfl rfl ?_ | refine ExOps.skipU rfl rfl rfl ?_ | (refine ExOps.gAnd4 ?_; refine' ExOps.and4 tOk rfl rfl rfl rfl rfl rfl rfl (by first | rfl | exact isDec _) (fun hg => ?_) ?_; rotate_left 3) | (refine ExOps.gAnd6 ?_; refine' ExOps.and6 tOk rfl rfl rfl rfl rfl rfl rfl (by first | rfl | exact isDec _) (fun hg => ?_) ?_; rotate_left 3) | ((fail_if_success refine ExOps.gIn rfl rfl ?_); first | refine ExOps.guardD rfl rfl rfl (fun hg => ?_) (fun hg => ?_) | refine ExOps.guard rfl rfl rfl (fun hg => ?_) (fun hg => ?_)))
    | (refine QSeq.g ?_; first | refine QSeq.norm ?_ | refine QSeq.ret ?_ | refine QSeq.exit ?_)
    | (refine QRet.g ?_; (first | ((first | refine QRet.end_ (.cons (.tmpE (by conv => lhs; whnf)) (.cons (.tmpE (by conv => lhs; whnf)) .nil)) ?_ | refine QRet.endN (.cons (.tmpE (by conv => lhs; whnf)) (.cons (.tmpE (by conv => lhs; whnf)) .nil)) ?_); try (focus first | rfl | (simp_all [packP]; done))) | ((first | refine QRet.same (.cons (.tmpE (by conv => lhs; whnf)) (.cons (.tmpE (by conv => lhs; whnf)) .nil)) ?_ ?_ | refine QRet.sameN (.cons (.tmpE (by conv => lhs; whnf)) (.cons (.tmpE (by conv => lhs; whnf)) .nil)) ?_ ?_); try (rotate_left; (focus first | rfl | (simp_all [packP]; done)); try (focus first | rfl | (simp_all [packP]; done))))))
    | refine ⟨rfl, (by first | rfl | exact isDec _), (by (repeat' (first | exact WkS.refl _ | refine WkS.upd ?_ Wk.junk)); first | done | fail), rfl⟩
    | fail)
  · have h : nameAt l i = true := by
      unfold nameAt
      refine decide_eq_true ?_
      simp at hc ⊢; exact hc
    rw [h]; rfl
  · have h : nameAt l i = false := by
      unfold nameAt
      exact decide_eq_false hc
    rw [h]; rfl
theorem rname_yes (l : List Tok) (i : Int) (hl : Sane l) (h : nameAt l i = true) : Callable Tryz.prog 16 [.slc (toks l) l.length, .int .i64 i] [] (Ret (.tup [.str (textAt l i), .bool true]) []) := by
  have h1 := rname_at l i hl
  rw [h] at h1; exact h1
theorem rname_no (l : List Tok) (i : Int) (hl : Sane l) (h : ¬ nameAt l i = true) : Callable Tryz.prog 16 [.slc (toks l) l.length, .int .i64 i] [] (Ret (.tup [.str ⟨#[]⟩, .bool false]) []) := by
  have h1 := rname_at l i hl
  rw [Bool.eq_false_iff.2 h] at h1; exact h1
theorem rlng_at (l : List Tok) (i : Int) (hl : Sane l) : Callable Tryz.prog 18 [.slc (toks l) l.length, .int .i64 i] [] (Ret (.tup [.str (if longAt l i = true then textAt l i else ⟨#[]⟩), .bool (longAt l i)]) []) := by
  refine Callable.of_ex tOk [.tmp 4, .tmp 5] Tryz.func18 rfl rfl rfl (Nat.le_of_ble_eq_true rfl) ?_
  repeat' (first
    | (refine Ex.g ?_; first | refine Ex.seq ?_ | refine Ex.region ?_ | refine Ex.skip ?_ | refine Ex.ret ?_ | refine Ex.exit ?_ | (refine Ex.gCond ?_; first | refine Ex.condT rfl ?_ | refine Ex.condF rfl ?_ | refine Ex.condD rfl (fun hc => ?_) (fun hc => ?_) | refine Ex.condN rfl (fun hc => ?_) (fun hc => ?_) | refine Ex.cond rfl (fun hc => ?_) (fun hc => ?_)))
    | refine ExOps.nil ?_
    | (refine ExOps.gPC ?_; first | refine ExOps.opR (OpOk.len tOk rfl rfl rfl) rfl ?_ | refine ExOps.opR (.cp rfl rfl rfl (h := rlong_ok _ (hl.short (by simp at *; omega) (by simp at *; omega)))) rfl ?_)
    | (refine ExOps.gP ?_; first | (refine ExOps.gB ?_; refine ExOps.calcE tOk rfl rfl (by conv => lhs; simp [pev, upd, PV.cells, argSlots]) ?_) | refine ExOps.calcE tOk rfl rfl (by conv => lhs; whnf) ?_ | refine ExOps.opR (OpOk.indexTok tOk rfl rfl rfl rfl rfl rfl rfl (by simp at *; omega) (by simp at *; omega) (by omega)) rfl ?_)
    | (refine ExOps.gG ?_; first | (refine ExOps.gIn rfl rfl ?_; first | (refine ExOps.gGC ?_; first | refine ExOps.opRG rfl rfl rfl (OpOk.len tOk rfl rfl rfl) rfl ?_ | refine ExOps.opRG rfl rfl rfl (.cp rfl rfl rfl (h := rlong_ok _ (hl.short (by simp at *; omega) (by simp at *; omega)))) rfl ?_) | (first | refine ExOps.calcGE tOk rfl rfl rfl rfl rfl (by conv => lhs; whnf) ?_ | refine ExOps.opRG rfl rfl rfl (OpOk.indexTok tOk rfl rfl rfl rfl rfl rfl rfl (by simp at *; omega) (by simp at *; omega) (by omega)) rfl ?_)) | refine ExOps.skipGU rfl rfl rfl rfl ?_ | refine ExOps.skipU rfl rfl rfl ?_ | (refine ExOps.gAnd4 ?_; refine' ExOps.and4 tOk rfl rfl rfl rfl rfl rfl rfl (by first | rfl | exact isDec _) (fun hg => ?_) ?_; rotate_left 3) | (refine ExOps.gAnd6 ?_; refine' ExOps.and6 tOk rfl rfl rfl rfl rfl rfl rfl (by first | rfl | exact isDec _) (fun hg => ?_) ?_; rotate_left 3) | ((fail_if_success refine ExOps.gIn rfl rfl ?_); first | refine ExOps.guardD rfl rfl rfl (fun hg => ?_) (fun hg => ?_) | refine ExOps.guard rfl rfl rfl (fun hg => ?_) (fun hg => ?_)))
    | (refine QSeq.g ?_; first | refine QSeq.norm ?_ | refine QSeq.ret ?_ | refine QSeq.exit ?_)
    | (refine QRet.g ?_; (first | ((first | refine QRet.end_ (.cons (.tmpE (by conv => lhs; whnf)) (.cons (.tmpE (by conv => lhs; whnf)) .nil)) ?_ | refine QRet.endN (.cons (.tmpE (by conv => lhs; whnf)) (.cons (.tmpE (by conv => lhs; whnf)) .nil)) ?_); try (focus first | rfl | (simp_all [packP]; done))) | ((first | refine QRet.same (.cons (.tmpE (by conv => lhs; whnf)) (.cons (.tmpE (by conv => lhs; whnf)) .nil)) ?_ ?_ | refine QRet.sameN (.cons (.tmpE (by conv => lhs; whnf)) (.cons (.tmpE (by conv => lhs; whnf)) .nil)) ?_ ?_); try (rotate_left; (focus first | rfl | (simp_all [packP]; done)); try (focus first | rfl | (simp_all [packP]; done))))))
    | refine ⟨rfl, (by first | rfl | exact isDec _), (by (repeat' (first | exact WkS.refl _ | refine WkS.upd ?_ Wk.junk)); first | done | fail), rfl⟩
    | fail)
  · have h : longAt l i = true := by
      unfold longAt
      refine decide_eq_true ?_
      simp at hc ⊢; exact hc
    rw [h]; rfl
  · have h : longAt l i = false := by
      unfold longAt
      exact decide_eq_false hc
    rw [h]; rfl
theorem rlng_yes (l : List Tok) (i : Int) (hl : Sane l) (h : longAt l i = true) : Callable Tryz.prog 18 [.slc (toks l) l.length, .int .i64 i] [] (Ret (.tup [.str (textAt l i), .bool true]) []) := by
  have h1 := rlng_at l i hl
  rw [h] at h1; exact h1
theorem rlng_no (l : List Tok) (i : Int) (hl : Sane l) (h : ¬ longAt l i = true) : Callable Tryz.prog 18 [.slc (toks l) l.length, .int .i64 i] [] (Ret (.tup [.str ⟨#[]⟩, .bool false]) []) := by
  have h1 := rlng_at l i hl
  rw [Bool.eq_false_iff.2 h] at h1; exact h1
theorem rnode_ok (k : Int) (s : ByteArray) (ks : PV) (h1 : ks = .nils ∨ (∃ cs n, ks = .ful cs n) ∨ (∃ v cs n, ks = .own v cs n) ∨ (∃ cs n, ks = .slc cs n) ∨ ks = .any1) : Callable Tryz.prog 57 [.int .i64 k, .str s, ks] [] (Ret (.ptr [.int .i64 k, .int .i64 0, .str s, .str ⟨#[]⟩, ks]) []) := by
  rcases h1 with rfl | ⟨cs, n, rfl⟩ | ⟨v, cs, n, rfl⟩ | ⟨cs, n, rfl⟩ | rfl
  all_goals
    refine Callable.of_ex tOk [.tmp 6] Tryz.func57 rfl rfl rfl (Nat.le_of_ble_eq_true rfl) ?_
    repeat' (first
      | (refine Ex.g ?_; first | refine Ex.seq ?_ | refine Ex.region ?_ | refine Ex.skip ?_ | refine Ex.ret ?_ | refine Ex.exit ?_ | (refine Ex.gCond ?_; first | refine Ex.condT rfl ?_ | refine Ex.condF rfl ?_ | refine Ex.condD rfl (fun hc => ?_) (fun hc => ?_) | refine Ex.condN rfl (fun hc => ?_) (fun hc => ?_) | refine Ex.cond rfl (fun hc => ?_) (fun hc => ?_)))
      | refine ExOps.nil ?_
      | (refine ExOps.gPC ?_; first | refine ExOps.opR (OpOk.len tOk rfl rfl rfl) rfl ?_)
      | (refine ExOps.gP ?_; first | (refine ExOps.gB ?_; refine ExOps.calcE tOk rfl rfl (by conv => lhs; simp [pev, upd, PV.cells, argSlots]) ?_) | refine ExOps.calcE tOk rfl rfl (by conv => lhs; whnf) ?_ | refine ExOps.opR (OpOk.boxPtr rfl rfl rfl rfl) rfl ?_)
      | (refine QSeq.g ?_; first | refine QSeq.norm ?_ | refine QSeq.ret ?_ | refine QSeq.exit ?_)
      | (refine QRet.g ?_; (first | ((first | refine QRet.end_ (.cons (.tmpE (by conv => lhs; whnf)) .nil) ?_ | refine QRet.endN (.cons (.tmpE (by conv => lhs; whnf)) .nil) ?_); try (focus first | rfl | (simp_all [packP]; done))) | ((first | refine QRet.same (.cons (.tmpE (by conv => lhs; whnf)) .nil) ?_ ?_ | refine QRet.sameN (.cons (.tmpE (by conv => lhs; whnf)) .nil) ?_ ?_); try (rotate_left; (focus first | rfl | (simp_all [packP]; done)); try (focus first | rfl | (simp_all [packP]; done))))))
      | fail)
theorem rproduct_no (l : List Tok) (i i1 e1 : Int) (one : PV) (hp : Callable Tryz.prog 92 [.slc (toks l) l.length, .int .i64 i] [] (Ret (.tup [one, .int .i64 i1, .int .i64 e1]) [])) (h : ¬ (e1 = 0 ∧ keyF l i1 b_star = true)) :
    Callable Tryz.prog 56 [.slc (toks l) l.length, .int .i64 i] [] (Ret (.tup [one, .int .i64 i1, .int .i64 e1]) []) := by
  by_cases he : e1 = 0
  · subst he
    refine Callable.of_ex tOk [.tmp 4, .tmp 5, .tmp 6] Tryz.func56 rfl rfl rfl (Nat.le_of_ble_eq_true rfl) ?_
    repeat' (first
      | (refine Ex.g ?_; first | refine Ex.seq ?_ | refine Ex.region ?_ | refine Ex.skip ?_ | refine Ex.ret ?_ | refine Ex.exit ?_ | (refine Ex.gCond ?_; first | refine Ex.condT rfl ?_ | refine Ex.condF rfl ?_ | refine Ex.condD rfl (fun hc => ?_) (fun hc => ?_) | refine Ex.condN rfl (fun hc => ?_) (fun hc => ?_) | refine Ex.cond rfl (fun hc => ?_) (fun hc => ?_)))
      | refine ExOps.nil ?_
      | (refine ExOps.gPC ?_; first | refine ExOps.opR (OpOk.len tOk rfl rfl rfl) rfl ?_ | refine ExOps.opR (.cp rfl rfl rfl (h := hp)) rfl ?_ | refine ExOps.opR (.cp rfl rfl rfl (h := rkey_no l i1 b_star (fun h' => h ⟨rfl, h'⟩))) rfl ?_)
      | (refine ExOps.gP ?_; first | (refine ExOps.gB ?_; refine ExOps.calcE tOk rfl rfl (by conv => lhs; simp [pev, upd, PV.cells, argSlots]) ?_) | refine ExOps.calcE tOk rfl rfl (by conv => lhs; whnf) ?_)
      | (refine ExOps.gG ?_; first | (refine ExOps.gIn rfl rfl ?_; first | (refine ExOps.gGC ?_; first | refine ExOps.opRG rfl rfl rfl (OpOk.len tOk rfl rfl rfl) rfl ?_ | refine ExOps.opRG rfl rfl rfl (.cp rfl rfl rfl (h := hp)) rfl ?_ | refine ExOps.opRG rfl rfl rfl (.cp rfl rfl rfl (h := rkey_no l i1 b_star (fun h' => h ⟨rfl, h'⟩))) rfl ?_) | (first | refine ExOps.calcGE tOk rfl rfl rfl rfl rfl (by conv => lhs; whnf) ?_)) | refine ExOps.skipGU rfl rfl rfl rfl ?_ | refine ExOps.skipU rfl rfl rfl ?_ | (refine ExOps.gOr4 ?_; refine' ExOps.or4 tOk rfl rfl rfl rfl rfl rfl rfl (by first | rfl | exact isDec _) (fun hg => ?_) ?_; rotate_left 3) | ((fail_if_success refine ExOps.gIn rfl rfl ?_); first | refine ExOps.guardD rfl rfl rfl (fun hg => ?_) (fun hg => ?_) | refine ExOps.guard rfl rfl rfl (fun hg => ?_) (fun hg => ?_)))
      | (refine QSeq.g ?_; first | refine QSeq.norm ?_ | refine QSeq.ret ?_ | refine QSeq.exit ?_)
      | (refine QRet.g ?_; (first | ((first | refine QRet.end_ (.cons (.tmpE (by conv => lhs; whnf)) (.cons (.tmpE (by conv => lhs; whnf)) (.cons (.tmpE (by conv => lhs; whnf)) .nil))) ?_ | refine QRet.endN (.cons (.tmpE (by conv => lhs; whnf)) (.cons (.tmpE (by conv => lhs; whnf)) (.cons (.tmpE (by conv => lhs; whnf)) .nil))) ?_); try (focus first | rfl | (rfl; done))) | ((first | refine QRet.same (.cons (.tmpE (by conv => lhs; whnf)) (.cons (.tmpE (by conv => lhs; whnf)) (.cons (.tmpE (by conv => lhs; whnf)) .nil))) ?_ ?_ | refine QRet.sameN (.cons (.tmpE (by conv => lhs; whnf)) (.cons (.tmpE (by conv => lhs; whnf)) (.cons (.tmpE (by conv => lhs; whnf)) .nil))) ?_ ?_); try (rotate_left; (focus first | rfl | (rfl; done)); try (focus first | rfl | (rfl; done))))))
      | refine ⟨rfl, (by first | rfl | exact isDec _), (by (repeat' (first | exact WkS.refl _ | refine WkS.upd ?_ Wk.junk)); first | done | fail), rfl⟩
      | fail)
  · refine Callable.of_ex tOk [.tmp 4, .tmp 5, .tmp 6] Tryz.func56 rfl rfl rfl (Nat.le_of_ble_eq_true rfl) ?_
    repeat' (first
      | (refine Ex.g ?_; first | refine Ex.seq ?_ | refine Ex.region ?_ | refine Ex.skip ?_ | refine Ex.ret ?_ | refine Ex.exit ?_ | (refine Ex.gCond ?_; first | refine Ex.condT rfl ?_ | refine Ex.condF rfl ?_ | refine Ex.condD rfl (fun hc => ?_) (fun hc => ?_) | refine Ex.condN rfl (fun hc => ?_) (fun hc => ?_) | refine Ex.cond rfl (fun hc => ?_) (fun hc => ?_)))
      | refine ExOps.nil ?_
      | (refine ExOps.gPC ?_; first | refine ExOps.opR (OpOk.len tOk rfl rfl rfl) rfl ?_ | refine ExOps.opR (.cp rfl rfl rfl (h := hp)) rfl ?_ | refine ExOps.opR (.cp rfl rfl rfl (h := rkey_ok l i1 b_star)) rfl ?_)
      | (refine ExOps.gP ?_; first | (refine ExOps.gB ?_; refine ExOps.calcE tOk rfl rfl (by conv => lhs; simp [pev, upd, PV.cells, argSlots]) ?_) | refine ExOps.calcE tOk rfl rfl (by conv => lhs; whnf) ?_)
      | (refine ExOps.gG ?_; first | (refine ExOps.gIn rfl rfl ?_; first | (refine ExOps.gGC ?_; first | refine ExOps.opRG rfl rfl rfl (OpOk.len tOk rfl rfl rfl) rfl ?_ | refine ExOps.opRG rfl rfl rfl (.cp rfl rfl rfl (h := hp)) rfl ?_ | refine ExOps.opRG rfl rfl rfl (.cp rfl rfl rfl (h := rkey_ok l i1 b_star)) rfl ?_) | (first | refine ExOps.calcGE tOk rfl rfl rfl rfl rfl (by conv => lhs; whnf) ?_)) | refine ExOps.skipGU rfl rfl rfl rfl ?_ | refine ExOps.skipU rfl rfl rfl ?_ | (refine ExOps.gOr4 ?_; refine' ExOps.or4 tOk rfl rfl rfl rfl rfl rfl rfl (by first | rfl | exact isDec _) (fun hg => ?_) ?_; rotate_left 3) | ((fail_if_success refine ExOps.gIn rfl rfl ?_); first | refine ExOps.guardD rfl rfl rfl (fun hg => ?_) (fun hg => ?_) | refine ExOps.guard rfl rfl rfl (fun hg => ?_) (fun hg => ?_)))
      | (refine QSeq.g ?_; first | refine QSeq.norm ?_ | refine QSeq.ret ?_ | refine QSeq.exit ?_)
      | (refine QRet.g ?_; (first | ((first | refine QRet.end_ (.cons (.tmpE (by conv => lhs; whnf)) (.cons (.tmpE (by conv => lhs; whnf)) (.cons (.tmpE (by conv => lhs; whnf)) .nil))) ?_ | refine QRet.endN (.cons (.tmpE (by conv => lhs; whnf)) (.cons (.tmpE (by conv => lhs; whnf)) (.cons (.tmpE (by conv => lhs; whnf)) .nil))) ?_); try (focus first | rfl | (rfl; done))) | ((first | refine QRet.same (.cons (.tmpE (by conv => lhs; whnf)) (.cons (.tmpE (by conv => lhs; whnf)) (.cons (.tmpE (by conv => lhs; whnf)) .nil))) ?_ ?_ | refine QRet.sameN (.cons (.tmpE (by conv => lhs; whnf)) (.cons (.tmpE (by conv => lhs; whnf)) (.cons (.tmpE (by conv => lhs; whnf)) .nil))) ?_ ?_); try (rotate_left; (focus first | rfl | (rfl; done)); try (focus first | rfl | (rfl; done))))))
      | refine ⟨rfl, (by first | rfl | exact isDec _), (by (repeat' (first | exact WkS.refl _ | refine WkS.upd ?_ Wk.junk)); first | done | fail), rfl⟩
      | fail)
    all_goals first | exact absurd he ‹¬ e1 ≠ 0› | (exfalso; simp at *; omega)
theorem rproduct_yes (l : List Tok) (i i1 i2 e2 : Int) (one r : PV) (ho : one.one = true) (hr : r.one = true) (hb : 0 ≤ i1 ∧ i1 ≤ 1048576) (hp : Callable Tryz.prog 92 [.slc (toks l) l.length, .int .i64 i] [] (Ret (.tup [one, .int .i64 i1, .int .i64 0]) [])) (h : keyF l i1 b_star = true)
    (ht : Callable Tryz.prog 56 [.slc (toks l) l.length, .int .i64 (i1 + 1)] [] (Ret (.tup [r, .int .i64 i2, .int .i64 e2]) [])) :
    Callable Tryz.prog 56 [.slc (toks l) l.length, .int .i64 i] [] (Ret (.tup [.ptr [.int .i64 6, .int .i64 0, .str ⟨#[]⟩, .str ⟨#[]⟩, .ful [one, r] 2], .int .i64 i2, .int .i64 e2]) []) := by
  refine Callable.of_ex tOk [.tmp 4, .tmp 5, .tmp 6] Tryz.func56 rfl rfl rfl (Nat.le_of_ble_eq_true rfl) ?_
  repeat' (first
    | (refine Ex.g ?_; first | refine Ex.seq ?_ | refine Ex.region ?_ | refine Ex.skip ?_ | refine Ex.ret ?_ | refine Ex.exit ?_ | (refine Ex.gCond ?_; first | refine Ex.condT rfl ?_ | refine Ex.condF rfl ?_ | refine Ex.condD rfl (fun hc => ?_) (fun hc => ?_) | refine Ex.condN rfl (fun hc => ?_) (fun hc => ?_) | refine Ex.cond rfl (fun hc => ?_) (fun hc => ?_)))
    | refine ExOps.nil ?_
    | (refine ExOps.gPC ?_; first | refine ExOps.opR (OpOk.len tOk rfl rfl rfl) rfl ?_ | refine ExOps.opR (.cp rfl rfl rfl (h := hp)) rfl ?_ | refine ExOps.opR (.cp rfl rfl rfl (h := rkey_yes l i1 b_star h)) rfl ?_ | refine ExOps.opR (.cp rfl rfl rfl (h := ht)) rfl ?_ | refine ExOps.opR (.cp rfl rfl rfl (h := rnode_ok 6 _ _ (.inr (.inl ⟨_, _, rfl⟩)))) rfl ?_)
    | (refine ExOps.gP ?_; first | (refine ExOps.gBin ?_; refine ExOps.calcE tOk rfl rfl (by first | exact eqT rfl | exact eqF (fun h => h rfl) | exact beqT _ | exact wrapB _ _ | exact wrapE (by omega) (by omega) | exact wrapE32 (by omega) (by omega) | fail) ?_) | (refine ExOps.gB ?_; refine ExOps.calcE tOk rfl rfl (by conv => lhs; simp [pev, upd, PV.cells, argSlots]) ?_) | refine ExOps.calcE tOk rfl rfl (by conv => lhs; whnf) ?_ | refine ExOps.opR (OpOk.bs2 tOk ho hr rfl rfl rfl rfl rfl rfl rfl rfl) rfl ?_)
    | (refine ExOps.gG ?_; first | (refine ExOps.gIn rfl rfl ?_; first | (refine ExOps.gGC ?_; first | refine ExOps.opRG rfl rfl rfl (OpOk.len tOk rfl rfl rfl) rfl ?_ | refine ExOps.opRG rfl rfl rfl (.cp rfl rfl rfl (h := hp)) rfl ?_ | refine ExOps.opRG rfl rfl rfl (.cp rfl rfl rfl (h := rkey_yes l i1 b_star h)) rfl ?_ | refine ExOps.opRG rfl rfl rfl (.cp rfl rfl rfl (h := ht)) rfl ?_ | refine ExOps.opRG rfl rfl rfl (.cp rfl rfl rfl (h := rnode_ok 6 _ _ (.inr (.inl ⟨_, _, rfl⟩)))) rfl ?_) | (first | (refine ExOps.gBin ?_; refine ExOps.calcGE tOk rfl rfl rfl rfl rfl (by first | exact eqT rfl | exact eqF (fun h => h rfl) | exact beqT _ | exact wrapB _ _ | exact wrapE (by omega) (by omega) | exact wrapE32 (by omega) (by omega) | fail) ?_) | refine ExOps.calcGE tOk rfl rfl rfl rfl rfl (by conv => lhs; whnf) ?_ | refine ExOps.opRG rfl rfl rfl (OpOk.bs2 tOk ho hr rfl rfl rfl rfl rfl rfl rfl rfl) rfl ?_)) | refine ExOps.skipGU rfl rfl rfl rfl ?_ | refine ExOps.skipU rfl rfl rfl ?_ | (refine ExOps.gOr4 ?_; refine' ExOps.or4 tOk rfl rfl rfl rfl rfl rfl rfl (by first | rfl | exact isDec _) (fun hg => ?_) ?_; rotate_left 3) | ((fail_if_success refine ExOps.gIn rfl rfl ?_); first | refine ExOps.guardD rfl rfl rfl (fun hg => ?_) (fun hg => ?_) | refine ExOps.guard rfl rfl rfl (fun hg => ?_) (fun hg => ?_)))
    | (refine QSeq.g ?_; first | refine QSeq.norm ?_ | refine QSeq.ret ?_ | refine QSeq.exit ?_)
    | (refine QRet.g ?_; (first | ((first | refine QRet.end_ (.cons (.tmpE (by conv => lhs; whnf)) (.cons (.tmpE (by conv => lhs; whnf)) (.cons (.tmpE (by conv => lhs; whnf)) .nil))) ?_ | refine QRet.endN (.cons (.tmpE (by conv => lhs; whnf)) (.cons (.tmpE (by conv => lhs; whnf)) (.cons (.tmpE (by conv => lhs; whnf)) .nil))) ?_); try (focus first | rfl | (rfl; done))) | ((first | refine QRet.same (.cons (.tmpE (by conv => lhs; whnf)) (.cons (.tmpE (by conv => lhs; whnf)) (.cons (.tmpE (by conv => lhs; whnf)) .nil))) ?_ ?_ | refine QRet.sameN (.cons (.tmpE (by conv => lhs; whnf)) (.cons (.tmpE (by conv => lhs; whnf)) (.cons (.tmpE (by conv => lhs; whnf)) .nil))) ?_ ?_); try (rotate_left; (focus first | rfl | (rfl; done)); try (focus first | rfl | (rfl; done))))))
    | refine ⟨rfl, (by first | rfl | exact isDec _), (by (repeat' (first | exact WkS.refl _ | refine WkS.upd ?_ Wk.junk)); first | done | fail), rfl⟩
    | fail)
theorem rtyp_no (l : List Tok) (i i1 e1 : Int) (one : PV) (hp : Callable Tryz.prog 56 [.slc (toks l) l.length, .int .i64 i] [] (Ret (.tup [one, .int .i64 i1, .int .i64 e1]) [])) (h : ¬ (e1 = 0 ∧ keyF l i1 b_arrow = true)) :
    Callable Tryz.prog 31 [.slc (toks l) l.length, .int .i64 i] [] (Ret (.tup [one, .int .i64 i1, .int .i64 e1]) []) := by
  by_cases he : e1 = 0
  · subst he
    refine Callable.of_ex tOk [.tmp 4, .tmp 5, .tmp 6] Tryz.func31 rfl rfl rfl (Nat.le_of_ble_eq_true rfl) ?_
    repeat' (first
      | (refine Ex.g ?_; first | refine Ex.seq ?_ | refine Ex.region ?_ | refine Ex.skip ?_ | refine Ex.ret ?_ | refine Ex.exit ?_ | (refine Ex.gCond ?_; first | refine Ex.condT rfl ?_ | refine Ex.condF rfl ?_ | refine Ex.condD rfl (fun hc => ?_) (fun hc => ?_) | refine Ex.condN rfl (fun hc => ?_) (fun hc => ?_) | refine Ex.cond rfl (fun hc => ?_) (fun hc => ?_)))
      | refine ExOps.nil ?_
      | (refine ExOps.gPC ?_; first | refine ExOps.opR (OpOk.len tOk rfl rfl rfl) rfl ?_ | refine ExOps.opR (.cp rfl rfl rfl (h := hp)) rfl ?_ | refine ExOps.opR (.cp rfl rfl rfl (h := rkey_no l i1 b_arrow (fun h' => h ⟨rfl, h'⟩))) rfl ?_)
      | (refine ExOps.gP ?_; first | (refine ExOps.gB ?_; refine ExOps.calcE tOk rfl rfl (by conv => lhs; simp [pev, upd, PV.cells, argSlots]) ?_) | refine ExOps.calcE tOk rfl rfl (by conv => lhs; whnf) ?_)
      | (refine ExOps.gG ?_; first | (refine ExOps.gIn rfl rfl ?_; first | (refine ExOps.gGC ?_; first | refine ExOps.opRG rfl rfl rfl (OpOk.len tOk rfl rfl rfl) rfl ?_ | refine ExOps.opRG rfl rfl rfl (.cp rfl rfl rfl (h := hp)) rfl ?_ | refine ExOps.opRG rfl rfl rfl (.cp rfl rfl rfl (h := rkey_no l i1 b_arrow (fun h' => h ⟨rfl, h'⟩))) rfl ?_) | (first | refine ExOps.calcGE tOk rfl rfl rfl rfl rfl (by conv => lhs; whnf) ?_)) | refine ExOps.skipGU rfl rfl rfl rfl ?_ | refine ExOps.skipU rfl rfl rfl ?_ | (refine ExOps.gOr4 ?_; refine' ExOps.or4 tOk rfl rfl rfl rfl rfl rfl rfl (by first | rfl | exact isDec _) (fun hg => ?_) ?_; rotate_left 3) | ((fail_if_success refine ExOps.gIn rfl rfl ?_); first | refine ExOps.guardD rfl rfl rfl (fun hg => ?_) (fun hg => ?_) | refine ExOps.guard rfl rfl rfl (fun hg => ?_) (fun hg => ?_)))
      | (refine QSeq.g ?_; first | refine QSeq.norm ?_ | refine QSeq.ret ?_ | refine QSeq.exit ?_)
      | (refine QRet.g ?_; (first | ((first | refine QRet.end_ (.cons (.tmpE (by conv => lhs; whnf)) (.cons (.tmpE (by conv => lhs; whnf)) (.cons (.tmpE (by conv => lhs; whnf)) .nil))) ?_ | refine QRet.endN (.cons (.tmpE (by conv => lhs; whnf)) (.cons (.tmpE (by conv => lhs; whnf)) (.cons (.tmpE (by conv => lhs; whnf)) .nil))) ?_); try (focus first | rfl | (rfl; done))) | ((first | refine QRet.same (.cons (.tmpE (by conv => lhs; whnf)) (.cons (.tmpE (by conv => lhs; whnf)) (.cons (.tmpE (by conv => lhs; whnf)) .nil))) ?_ ?_ | refine QRet.sameN (.cons (.tmpE (by conv => lhs; whnf)) (.cons (.tmpE (by conv => lhs; whnf)) (.cons (.tmpE (by conv => lhs; whnf)) .nil))) ?_ ?_); try (rotate_left; (focus first | rfl | (rfl; done)); try (focus first | rfl | (rfl; done))))))
      | refine ⟨rfl, (by first | rfl | exact isDec _), (by (repeat' (first | exact WkS.refl _ | refine WkS.upd ?_ Wk.junk)); first | done | fail), rfl⟩
      | fail)
  · refine Callable.of_ex tOk [.tmp 4, .tmp 5, .tmp 6] Tryz.func31 rfl rfl rfl (Nat.le_of_ble_eq_true rfl) ?_
    repeat' (first
      | (refine Ex.g ?_; first | refine Ex.seq ?_ | refine Ex.region ?_ | refine Ex.skip ?_ | refine Ex.ret ?_ | refine Ex.exit ?_ | (refine Ex.gCond ?_; first | refine Ex.condT rfl ?_ | refine Ex.condF rfl ?_ | refine Ex.condD rfl (fun hc => ?_) (fun hc => ?_) | refine Ex.condN rfl (fun hc => ?_) (fun hc => ?_) | refine Ex.cond rfl (fun hc => ?_) (fun hc => ?_)))
      | refine ExOps.nil ?_
      | (refine ExOps.gPC ?_; first | refine ExOps.opR (OpOk.len tOk rfl rfl rfl) rfl ?_ | refine ExOps.opR (.cp rfl rfl rfl (h := hp)) rfl ?_ | refine ExOps.opR (.cp rfl rfl rfl (h := rkey_ok l i1 b_arrow)) rfl ?_)
      | (refine ExOps.gP ?_; first | (refine ExOps.gB ?_; refine ExOps.calcE tOk rfl rfl (by conv => lhs; simp [pev, upd, PV.cells, argSlots]) ?_) | refine ExOps.calcE tOk rfl rfl (by conv => lhs; whnf) ?_)
      | (refine ExOps.gG ?_; first | (refine ExOps.gIn rfl rfl ?_; first | (refine ExOps.gGC ?_; first | refine ExOps.opRG rfl rfl rfl (OpOk.len tOk rfl rfl rfl) rfl ?_ | refine ExOps.opRG rfl rfl rfl (.cp rfl rfl rfl (h := hp)) rfl ?_ | refine ExOps.opRG rfl rfl rfl (.cp rfl rfl rfl (h := rkey_ok l i1 b_arrow)) rfl ?_) | (first | refine ExOps.calcGE tOk rfl rfl rfl rfl rfl (by conv => lhs; whnf) ?_)) | refine ExOps.skipGU rfl rfl rfl rfl ?_ | refine ExOps.skipU rfl rfl rfl ?_ | (refine ExOps.gOr4 ?_; refine' ExOps.or4 tOk rfl rfl rfl rfl rfl rfl rfl (by first | rfl | exact isDec _) (fun hg => ?_) ?_; rotate_left 3) | ((fail_if_success refine ExOps.gIn rfl rfl ?_); first | refine ExOps.guardD rfl rfl rfl (fun hg => ?_) (fun hg => ?_) | refine ExOps.guard rfl rfl rfl (fun hg => ?_) (fun hg => ?_)))
      | (refine QSeq.g ?_; first | refine QSeq.norm ?_ | refine QSeq.ret ?_ | refine QSeq.exit ?_)
      | (refine QRet.g ?_; (first | ((first | refine QRet.end_ (.cons (.tmpE (by conv => lhs; whnf)) (.cons (.tmpE (by conv => lhs; whnf)) (.cons (.tmpE (by conv => lhs; whnf)) .nil))) ?_ | refine QRet.endN (.cons (.tmpE (by conv => lhs; whnf)) (.cons (.tmpE (by conv => lhs; whnf)) (.cons (.tmpE (by conv => lhs; whnf)) .nil))) ?_); try (focus first | rfl | (rfl; done))) | ((first | refine QRet.same (.cons (.tmpE (by conv => lhs; whnf)) (.cons (.tmpE (by conv => lhs; whnf)) (.cons (.tmpE (by conv => lhs; whnf)) .nil))) ?_ ?_ | refine QRet.sameN (.cons (.tmpE (by conv => lhs; whnf)) (.cons (.tmpE (by conv => lhs; whnf)) (.cons (.tmpE (by conv => lhs; whnf)) .nil))) ?_ ?_); try (rotate_left; (focus first | rfl | (rfl; done)); try (focus first | rfl | (rfl; done))))))
      | refine ⟨rfl, (by first | rfl | exact isDec _), (by (repeat' (first | exact WkS.refl _ | refine WkS.upd ?_ Wk.junk)); first | done | fail), rfl⟩
      | fail)
    all_goals first | exact absurd he ‹¬ e1 ≠ 0› | (exfalso; simp at *; omega)
theorem rtyp_yes (l : List Tok) (i i1 i2 e2 : Int) (one r : PV) (ho : one.one = true) (hr : r.one = true) (hb : 0 ≤ i1 ∧ i1 ≤ 1048576) (hp : Callable Tryz.prog 56 [.slc (toks l) l.length, .int .i64 i] [] (Ret (.tup [one, .int .i64 i1, .int .i64 0]) [])) (h : keyF l i1 b_arrow = true)
    (ht : Callable Tryz.prog 31 [.slc (toks l) l.length, .int .i64 (i1 + 1)] [] (Ret (.tup [r, .int .i64 i2, .int .i64 e2]) [])) :
    Callable Tryz.prog 31 [.slc (toks l) l.length, .int .i64 i] [] (Ret (.tup [.ptr [.int .i64 5, .int .i64 0, .str ⟨#[]⟩, .str ⟨#[]⟩, .ful [one, r] 2], .int .i64 i2, .int .i64 e2]) []) := by
  refine Callable.of_ex tOk [.tmp 4, .tmp 5, .tmp 6] Tryz.func31 rfl rfl rfl (Nat.le_of_ble_eq_true rfl) ?_
  repeat' (first
    | (refine Ex.g ?_; first | refine Ex.seq ?_ | refine Ex.region ?_ | refine Ex.skip ?_ | refine Ex.ret ?_ | refine Ex.exit ?_ | (refine Ex.gCond ?_; first | refine Ex.condT rfl ?_ | refine Ex.condF rfl ?_ | refine Ex.condD rfl (fun hc => ?_) (fun hc => ?_) | refine Ex.condN rfl (fun hc => ?_) (fun hc => ?_) | refine Ex.cond rfl (fun hc => ?_) (fun hc => ?_)))
    | refine ExOps.nil ?_
    | (refine ExOps.gPC ?_; first | refine ExOps.opR (OpOk.len tOk rfl rfl rfl) rfl ?_ | refine ExOps.opR (.cp rfl rfl rfl (h := hp)) rfl ?_ | refine ExOps.opR (.cp rfl rfl rfl (h := rkey_yes l i1 b_arrow h)) rfl ?_ | refine ExOps.opR (.cp rfl rfl rfl (h := ht)) rfl ?_ | refine ExOps.opR (.cp rfl rfl rfl (h := rnode_ok 5 _ _ (.inr (.inl ⟨_, _, rfl⟩)))) rfl ?_)
    | (refine ExOps.gP ?_; first | (refine ExOps.gBin ?_; refine ExOps.calcE tOk rfl rfl (by first | exact eqT rfl | exact eqF (fun h => h rfl) | exact beqT _ | exact wrapB _ _ | exact wrapE (by omega) (by omega) | exact wrapE32 (by omega) (by omega) | fail) ?_) | (refine ExOps.gB ?_; refine ExOps.calcE tOk rfl rfl (by conv => lhs; simp [pev, upd, PV.cells, argSlots]) ?_) | refine ExOps.calcE tOk rfl rfl (by conv => lhs; whnf) ?_ | refine ExOps.opR (OpOk.bs2 tOk ho hr rfl rfl rfl rfl rfl rfl rfl rfl) rfl ?_)
    | (refine ExOps.gG ?_; first | (refine ExOps.gIn rfl rfl ?_; first | (refine ExOps.gGC ?_; first | refine ExOps.opRG rfl rfl rfl (OpOk.len tOk rfl rfl rfl) rfl ?_ | refine ExOps.opRG rfl rfl rfl (.cp rfl rfl rfl (h := hp)) rfl ?_ | refine ExOps.opRG rfl rfl rfl (.cp rfl rfl rfl (h := rkey_yes l i1 b_arrow h)) rfl ?_ | refine ExOps.opRG rfl rfl rfl (.cp rfl rfl rfl (h := ht)) rfl ?_ | refine ExOps.opRG rfl rfl rfl (.cp rfl rfl rfl (h := rnode_ok 5 _ _ (.inr (.inl ⟨_, _, rfl⟩)))) rfl ?_) | (first | (refine ExOps.gBin ?_; refine ExOps.calcGE tOk rfl rfl rfl rfl rfl (by first | exact eqT rfl | exact eqF (fun h => h rfl) | exact beqT _ | exact wrapB _ _ | exact wrapE (by omega) (by omega) | exact wrapE32 (by omega) (by omega) | fail) ?_) | refine ExOps.calcGE tOk rfl rfl rfl rfl rfl (by conv => lhs; whnf) ?_ | refine ExOps.opRG rfl rfl rfl (OpOk.bs2 tOk ho hr rfl rfl rfl rfl rfl rfl rfl rfl) rfl ?_)) | refine ExOps.skipGU rfl rfl rfl rfl ?_ | refine ExOps.skipU rfl rfl rfl ?_ | (refine ExOps.gOr4 ?_; refine' ExOps.or4 tOk rfl rfl rfl rfl rfl rfl rfl (by first | rfl | exact isDec _) (fun hg => ?_) ?_; rotate_left 3) | ((fail_if_success refine ExOps.gIn rfl rfl ?_); first | refine ExOps.guardD rfl rfl rfl (fun hg => ?_) (fun hg => ?_) | refine ExOps.guard rfl rfl rfl (fun hg => ?_) (fun hg => ?_)))
    | (refine QSeq.g ?_; first | refine QSeq.norm ?_ | refine QSeq.ret ?_ | refine QSeq.exit ?_)
    | (refine QRet.g ?_; (first | ((first | refine QRet.end_ (.cons (.tmpE (by conv => lhs; whnf)) (.cons (.tmpE (by conv => lhs; whnf)) (.cons (.tmpE (by conv => lhs; whnf)) .nil))) ?_ | refine QRet.endN (.cons (.tmpE (by conv => lhs; whnf)) (.cons (.tmpE (by conv => lhs; whnf)) (.cons (.tmpE (by conv => lhs; whnf)) .nil))) ?_); try (focus first | rfl | (rfl; done))) | ((first | refine QRet.same (.cons (.tmpE (by conv => lhs; whnf)) (.cons (.tmpE (by conv => lhs; whnf)) (.cons (.tmpE (by conv => lhs; whnf)) .nil))) ?_ ?_ | refine QRet.sameN (.cons (.tmpE (by conv => lhs; whnf)) (.cons (.tmpE (by conv => lhs; whnf)) (.cons (.tmpE (by conv => lhs; whnf)) .nil))) ?_ ?_); try (rotate_left; (focus first | rfl | (rfl; done)); try (focus first | rfl | (rfl; done))))))
    | refine ⟨rfl, (by first | rfl | exact isDec _), (by (repeat' (first | exact WkS.refl _ | refine WkS.upd ?_ Wk.junk)); first | done | fail), rfl⟩
    | fail)
end Go.Proofs.YtceoldiblphahaaGreatDoor
