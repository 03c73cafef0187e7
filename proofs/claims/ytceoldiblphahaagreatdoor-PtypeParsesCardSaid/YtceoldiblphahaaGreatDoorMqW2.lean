/- Contracts of package ptype's parser. -/
import Derived.Test.YtceoldiblphahaaGreatDoorMqN1
import Derived.Test.YtceoldiblphahaaGreatDoorMqU
import Derived.Test.YtceoldiblphahaaGreatDoorMqV
set_option linter.unusedVariables false
set_option linter.unusedSimpArgs false
set_option linter.unusedSectionVars false
namespace Go.Proofs.YtceoldiblphahaaGreatDoor
open Go.Mq
attribute [local irreducible] Ex ExOps QSeq QBlock QLoop QRet OpOk Callable DEx DRd Melt Wk Tree.pv pvs toks opv strs

attribute [local irreducible] nameF wordF checkF longF keyF nameAt longAt typF productF atomF consF

/-- The parser's own block. -/
abbrev pst (p : Nat) (l : List Tok) (i e : Int) : Ent := .cells p [.slc (toks l) l.length, .int .i64 i, .int .i64 e]
/-- No token's text is too long. -/
def Sane (l : List Tok) : Prop := (l.length : Int) ≤ 1048576 ∧ ∀ t ∈ l, t.text.size ≤ 1048576
theorem Sane.at_ {l : List Tok} (h : Sane l) {i : Int} (h0 : 0 ≤ i) (h1 : i < l.length) : l[i.toNat]!.text.size < 4294967281 := Nat.lt_of_le_of_lt (h.2 _ (getB_mem (by omega))) (by decide)
theorem Sane.short {l : List Tok} (h : Sane l) {i : Int} (h0 : 0 ≤ i) (h1 : i < l.length) : l[i.toNat]!.text.size ≤ 1048576 := h.2 _ (getB_mem (by omega))

theorem in_ok (l : List Tok) (i : Int) : Callable Tryz.prog 34 [.slc (toks l) l.length, .int .i64 i] [] (Ret (.bool (decide (i ≥ 0 ∧ i < l.length))) []) := by
  refine Callable.of_ex tOk [.tmp 4] Tryz.func34 rfl rfl rfl (Nat.le_of_ble_eq_true rfl) ?_
  repeat' (first
    | (refine Ex.g ?_; first | refine Ex.seq ?_ | refine Ex.region ?_ | refine Ex.skip ?_ | refine Ex.ret ?_ | refine Ex.exit ?_ | (refine Ex.gCond ?_; first | refine Ex.condT rfl ?_ | refine Ex.condF rfl ?_ | refine Ex.condD rfl (fun hc => ?_) (fun hc => ?_) | refine Ex.condN rfl (fun hc => ?_) (fun hc => ?_) | refine Ex.cond rfl (fun hc => ?_) (fun hc => ?_)))
    | refine ExOps.nil ?_
    | (refine ExOps.gPC ?_; first | refine ExOps.opR (OpOk.len tOk rfl rfl rfl) rfl ?_)
    | (refine ExOps.gP ?_; first | (refine ExOps.gB ?_; refine ExOps.calcE tOk rfl rfl (by conv => lhs; simp [pev, upd, PV.cells, argSlots]) ?_) | refine ExOps.calcE tOk rfl rfl (by conv => lhs; whnf) ?_)
    | (refine ExOps.gG ?_; first | (refine ExOps.gIn rfl rfl ?_; first | (refine ExOps.gGC ?_; first | refine ExOps.opRG rfl rfl rfl (OpOk.len tOk rfl rfl rfl) rfl ?_) | (first | refine ExOps.calcGE tOk rfl rfl rfl rfl rfl (by conv => lhs; whnf) ?_)) | refine ExOps.skipGU rfl rfl rfl rfl ?_ | refine ExOps.skipU rfl rfl rfl ?_ | (refine ExOps.gAnd4 ?_; refine' ExOps.and4 tOk rfl rfl rfl rfl rfl rfl rfl (by first | rfl | exact isDec _) (fun hg => ?_) ?_; rotate_left 3) | ((fail_if_success refine ExOps.gIn rfl rfl ?_); first | refine ExOps.guardD rfl rfl rfl (fun hg => ?_) (fun hg => ?_) | refine ExOps.guard rfl rfl rfl (fun hg => ?_) (fun hg => ?_)))
    | (refine QSeq.g ?_; first | refine QSeq.norm ?_ | refine QSeq.ret ?_ | refine QSeq.exit ?_)
    | (refine QRet.g ?_; (first | ((first | refine QRet.end_ (.cons (.tmpE (by conv => lhs; whnf)) .nil) ?_ | refine QRet.endN (.cons (.tmpE (by conv => lhs; whnf)) .nil) ?_); try (focus first | rfl | (simp_all [packP]; done))) | ((first | refine QRet.same (.cons (.tmpE (by conv => lhs; whnf)) .nil) ?_ ?_ | refine QRet.sameN (.cons (.tmpE (by conv => lhs; whnf)) .nil) ?_ ?_); try (rotate_left; (focus first | rfl | (simp_all [packP]; done)); try (focus first | rfl | (simp_all [packP]; done))))))
    | refine ⟨rfl, (by first | rfl | exact isDec _), (by (repeat' (first | exact WkS.refl _ | refine WkS.upd ?_ Wk.junk)); first | done | fail), rfl⟩
    | fail)
theorem key_ok (l : List Tok) (i : Int) (x : ByteArray) : Callable Tryz.prog 21 [.slc (toks l) l.length, .int .i64 i, .str x] [] (Ret (.bool (keyF l i x)) []) := by
  refine Callable.of_ex tOk [.tmp 6] Tryz.func21 rfl rfl rfl (Nat.le_of_ble_eq_true rfl) ?_
  repeat' (first
    | (refine Ex.g ?_; first | refine Ex.seq ?_ | refine Ex.region ?_ | refine Ex.skip ?_ | refine Ex.ret ?_ | refine Ex.exit ?_ | (refine Ex.gCond ?_; first | refine Ex.condT rfl ?_ | refine Ex.condF rfl ?_ | refine Ex.condD rfl (fun hc => ?_) (fun hc => ?_) | refine Ex.condN rfl (fun hc => ?_) (fun hc => ?_) | refine Ex.cond rfl (fun hc => ?_) (fun hc => ?_)))
    | refine ExOps.nil ?_
    | (refine ExOps.gPC ?_; first | refine ExOps.opR (OpOk.len tOk rfl rfl rfl) rfl ?_ | refine ExOps.opR (.cp rfl rfl rfl (h := in_ok l i)) rfl ?_)
    | (refine ExOps.gP ?_; first | (refine ExOps.gB ?_; refine ExOps.calcE tOk rfl rfl (by conv => lhs; simp [pev, upd, PV.cells, argSlots]) ?_) | refine ExOps.calcE tOk rfl rfl (by conv => lhs; whnf) ?_ | refine ExOps.opR (OpOk.indexTok tOk rfl rfl rfl rfl rfl rfl rfl (by omega) (by omega) (by omega)) rfl ?_)
    | (refine ExOps.gG ?_; first | (refine ExOps.gIn rfl rfl ?_; first | refine ExOps.calcGE tOk rfl rfl rfl rfl rfl (by conv => lhs; whnf) ?_ | refine ExOps.opRG rfl rfl rfl (OpOk.indexTok tOk rfl rfl rfl rfl rfl rfl rfl (by omega) (by omega) (by omega)) rfl ?_) | refine ExOps.skipGU rfl rfl rfl rfl ?_ | refine ExOps.skipU rfl rfl rfl ?_ | (refine ExOps.gAnd6 ?_; refine' ExOps.and6 tOk rfl rfl rfl rfl rfl rfl rfl (by first | rfl | exact isDec _) (fun hg => ?_) ?_; rotate_left 3) | (refine ExOps.gAnd7 ?_; refine' ExOps.and7 tOk rfl rfl rfl rfl rfl rfl rfl (by first | rfl | exact isDec _) (fun hg => ?_) ?_; rotate_left 3) | ((fail_if_success refine ExOps.gIn rfl rfl ?_); first | refine ExOps.guardD rfl rfl rfl (fun hg => ?_) (fun hg => ?_) | refine ExOps.guard rfl rfl rfl (fun hg => ?_) (fun hg => ?_)))
    | (refine QSeq.g ?_; first | refine QSeq.norm ?_ | refine QSeq.ret ?_ | refine QSeq.exit ?_)
    | (refine QRet.g ?_; (first | ((first | refine QRet.end_ (.cons (.tmpE (by conv => lhs; whnf)) .nil) ?_ | refine QRet.endN (.cons (.tmpE (by conv => lhs; whnf)) .nil) ?_); try (focus first | rfl | (unfold keyF; rfl; done))) | ((first | refine QRet.same (.cons (.tmpE (by conv => lhs; whnf)) .nil) ?_ ?_ | refine QRet.sameN (.cons (.tmpE (by conv => lhs; whnf)) .nil) ?_ ?_); try (rotate_left; (focus first | rfl | (unfold keyF; rfl; done)); try (focus first | rfl | (unfold keyF; rfl; done))))))
    | refine ⟨rfl, (by first | rfl | exact isDec _), (by (repeat' (first | exact WkS.refl _ | refine WkS.upd ?_ Wk.junk)); first | done | fail), rfl⟩
    | fail)
theorem name_ok (l : List Tok) (i : Int) (hl : Sane l) : Callable Tryz.prog 15 [.slc (toks l) l.length, .int .i64 i] [] (Ret (.tup [.str (if nameAt l i = true then textAt l i else ⟨#[]⟩), .bool (nameAt l i)]) []) := by
  refine Callable.of_ex tOk [.tmp 4, .tmp 5] Tryz.func15 rfl rfl rfl (Nat.le_of_ble_eq_true rfl) ?_
  repeat' (first
    | (refine Ex.g ?_; first | refine Ex.seq ?_ | refine Ex.region ?_ | refine Ex.skip ?_ | refine Ex.ret ?_ | refine Ex.exit ?_ | (refine Ex.gCond ?_; first | refine Ex.condT rfl ?_ | refine Ex.condF rfl ?_ | refine Ex.condD rfl (fun hc => ?_) (fun hc => ?_) | refine Ex.condN rfl (fun hc => ?_) (fun hc => ?_) | refine Ex.cond rfl (fun hc => ?_) (fun hc => ?_)))
    | refine ExOps.nil ?_
    | (refine ExOps.gPC ?_; first | refine ExOps.opR (OpOk.len tOk rfl rfl rfl) rfl ?_ | refine ExOps.opR (.cp rfl rfl rfl (h := in_ok l i)) rfl ?_ | refine ExOps.opR (.cp rfl rfl rfl (h := check_ok _ (Nat.le_of_lt (Nat.lt_trans (hl.at_ (by simp at *; omega) (by simp at *; omega)) (by decide))))) rfl ?_)
    | (refine ExOps.gP ?_; first | (refine ExOps.gB ?_; refine ExOps.calcE tOk rfl rfl (by conv => lhs; simp [pev, upd, PV.cells, argSlots]) ?_) | refine ExOps.calcE tOk rfl rfl (by conv => lhs; whnf) ?_ | refine ExOps.opR (OpOk.indexTok tOk rfl rfl rfl rfl rfl rfl rfl (by simp at *; omega) (by simp at *; omega) (by omega)) rfl ?_)
    | (refine ExOps.gG ?_; first | (refine ExOps.gIn rfl rfl ?_; first | (refine ExOps.gGC ?_; first | refine ExOps.opRG rfl rfl rfl (OpOk.len tOk rfl rfl rfl) rfl ?_ | refine ExOps.opRG rfl rfl rfl (.cp rfl rfl rfl (h := in_ok l i)) rfl ?_ | refine ExOps.opRG rfl rfl rfl (.cp rfl rfl rfl (h := check_ok _ (Nat.le_of_lt (Nat.lt_trans (hl.at_ (by simp at *; omega) (by simp at *; omega)) (by decide))))) rfl ?_) | (first | refine ExOps.calcGE tOk rfl rfl rfl rfl rfl (by conv => lhs; whnf) ?_ | refine ExOps.opRG rfl rfl rfl (OpOk.indexTok tOk rfl rfl rfl rfl rfl rfl rfl (by simp at *; omega) (by simp at *; omega) (by omega)) rfl ?_)) | refine ExOps.skipGU rfl rfl rfl rfl ?_ | refine ExOps.skipU rfl rfl rfl ?_ | (refine ExOps.gOr6 ?_; refine' ExOps.or6 tOk rfl rfl rfl rfl rfl rfl rfl (by first | rfl | exact isDec _) (fun hg => ?_) ?_; rotate_left 3) | (refine ExOps.gOr7 ?_; refine' ExOps.or7 tOk rfl rfl rfl rfl rfl rfl rfl (by first | rfl | exact isDec _) (fun hg => ?_) ?_; rotate_left 3) | ((fail_if_success refine ExOps.gIn rfl rfl ?_); first | refine ExOps.guardD rfl rfl rfl (fun hg => ?_) (fun hg => ?_) | refine ExOps.guard rfl rfl rfl (fun hg => ?_) (fun hg => ?_)))
    | (refine QSeq.g ?_; first | refine QSeq.norm ?_ | refine QSeq.ret ?_ | refine QSeq.exit ?_)
    | (refine QRet.g ?_; (first | ((first | refine QRet.end_ (.cons (.tmpE (by conv => lhs; whnf)) (.cons (.tmpE (by conv => lhs; whnf)) .nil)) ?_ | refine QRet.endN (.cons (.tmpE (by conv => lhs; whnf)) (.cons (.tmpE (by conv => lhs; whnf)) .nil)) ?_); try (focus first | rfl | (simp_all [packP]; done))) | ((first | refine QRet.same (.cons (.tmpE (by conv => lhs; whnf)) (.cons (.tmpE (by conv => lhs; whnf)) .nil)) ?_ ?_ | refine QRet.sameN (.cons (.tmpE (by conv => lhs; whnf)) (.cons (.tmpE (by conv => lhs; whnf)) .nil)) ?_ ?_); try (rotate_left; (focus first | rfl | (simp_all [packP]; done)); try (focus first | rfl | (simp_all [packP]; done))))))
    | refine ⟨rfl, (by first | rfl | exact isDec _), (by (repeat' (first | exact WkS.refl _ | refine WkS.upd ?_ Wk.junk)); first | done | fail), rfl⟩
    | fail)
  · have h : nameAt l i = false := by
      unfold nameAt
      exact decide_eq_false fun ⟨⟨h1, h2⟩, h3⟩ => by rw [h2, h3, decide_eq_true h1] at hc; simp at hc
    rw [h]; rfl
  · have h : nameAt l i = true := by
      unfold nameAt
      refine decide_eq_true ?_
      simp at hc ⊢; exact hc
    rw [h]; rfl
theorem long_at_ok (l : List Tok) (i : Int) (hl : Sane l) : Callable Tryz.prog 17 [.slc (toks l) l.length, .int .i64 i] [] (Ret (.tup [.str (if longAt l i = true then textAt l i else ⟨#[]⟩), .bool (longAt l i)]) []) := by
  refine Callable.of_ex tOk [.tmp 4, .tmp 5] Tryz.func17 rfl rfl rfl (Nat.le_of_ble_eq_true rfl) ?_
  repeat' (first
    | (refine Ex.g ?_; first | refine Ex.seq ?_ | refine Ex.region ?_ | refine Ex.skip ?_ | refine Ex.ret ?_ | refine Ex.exit ?_ | (refine Ex.gCond ?_; first | refine Ex.condT rfl ?_ | refine Ex.condF rfl ?_ | refine Ex.condD rfl (fun hc => ?_) (fun hc => ?_) | refine Ex.condN rfl (fun hc => ?_) (fun hc => ?_) | refine Ex.cond rfl (fun hc => ?_) (fun hc => ?_)))
    | refine ExOps.nil ?_
    | (refine ExOps.gPC ?_; first | refine ExOps.opR (OpOk.len tOk rfl rfl rfl) rfl ?_ | refine ExOps.opR (.cp rfl rfl rfl (h := in_ok l i)) rfl ?_ | refine ExOps.opR (.cp rfl rfl rfl (h := long_ok _ (hl.at_ (by simp at *; omega) (by simp at *; omega)))) rfl ?_)
    | (refine ExOps.gP ?_; first | (refine ExOps.gB ?_; refine ExOps.calcE tOk rfl rfl (by conv => lhs; simp [pev, upd, PV.cells, argSlots]) ?_) | refine ExOps.calcE tOk rfl rfl (by conv => lhs; whnf) ?_ | refine ExOps.opR (OpOk.indexTok tOk rfl rfl rfl rfl rfl rfl rfl (by simp at *; omega) (by simp at *; omega) (by omega)) rfl ?_)
    | (refine ExOps.gG ?_; first | (refine ExOps.gIn rfl rfl ?_; first | (refine ExOps.gGC ?_; first | refine ExOps.opRG rfl rfl rfl (OpOk.len tOk rfl rfl rfl) rfl ?_ | refine ExOps.opRG rfl rfl rfl (.cp rfl rfl rfl (h := in_ok l i)) rfl ?_ | refine ExOps.opRG rfl rfl rfl (.cp rfl rfl rfl (h := long_ok _ (hl.at_ (by simp at *; omega) (by simp at *; omega)))) rfl ?_) | (first | refine ExOps.calcGE tOk rfl rfl rfl rfl rfl (by conv => lhs; whnf) ?_ | refine ExOps.opRG rfl rfl rfl (OpOk.indexTok tOk rfl rfl rfl rfl rfl rfl rfl (by simp at *; omega) (by simp at *; omega) (by omega)) rfl ?_)) | refine ExOps.skipGU rfl rfl rfl rfl ?_ | refine ExOps.skipU rfl rfl rfl ?_ | (refine ExOps.gOr6 ?_; refine' ExOps.or6 tOk rfl rfl rfl rfl rfl rfl rfl (by first | rfl | exact isDec _) (fun hg => ?_) ?_; rotate_left 3) | (refine ExOps.gOr7 ?_; refine' ExOps.or7 tOk rfl rfl rfl rfl rfl rfl rfl (by first | rfl | exact isDec _) (fun hg => ?_) ?_; rotate_left 3) | ((fail_if_success refine ExOps.gIn rfl rfl ?_); first | refine ExOps.guardD rfl rfl rfl (fun hg => ?_) (fun hg => ?_) | refine ExOps.guard rfl rfl rfl (fun hg => ?_) (fun hg => ?_)))
    | (refine QSeq.g ?_; first | refine QSeq.norm ?_ | refine QSeq.ret ?_ | refine QSeq.exit ?_)
    | (refine QRet.g ?_; (first | ((first | refine QRet.end_ (.cons (.tmpE (by conv => lhs; whnf)) (.cons (.tmpE (by conv => lhs; whnf)) .nil)) ?_ | refine QRet.endN (.cons (.tmpE (by conv => lhs; whnf)) (.cons (.tmpE (by conv => lhs; whnf)) .nil)) ?_); try (focus first | rfl | (simp_all [packP]; done))) | ((first | refine QRet.same (.cons (.tmpE (by conv => lhs; whnf)) (.cons (.tmpE (by conv => lhs; whnf)) .nil)) ?_ ?_ | refine QRet.sameN (.cons (.tmpE (by conv => lhs; whnf)) (.cons (.tmpE (by conv => lhs; whnf)) .nil)) ?_ ?_); try (rotate_left; (focus first | rfl | (simp_all [packP]; done)); try (focus first | rfl | (simp_all [packP]; done))))))
    | refine ⟨rfl, (by first | rfl | exact isDec _), (by (repeat' (first | exact WkS.refl _ | refine WkS.upd ?_ Wk.junk)); first | done | fail), rfl⟩
    | fail)
  · have h : longAt l i = false := by
      unfold longAt
      exact decide_eq_false fun ⟨⟨h1, h2⟩, h3⟩ => by rw [h2, h3, decide_eq_true h1] at hc; simp at hc
    rw [h]; rfl
  · have h : longAt l i = true := by
      unfold longAt
      refine decide_eq_true ?_
      simp at hc ⊢; exact hc
    rw [h]; rfl
theorem pfail_ok (p : Nat) (l : List Tok) (i e x : Int) : Callable Tryz.prog 59 [.loc p 0, .int .i64 x] [pst p l i e] (Ret (.tup []) [pst p l i (if e = 0 then x else e)]) := by
  refine Callable.of_ex tOk [] Tryz.func59 rfl rfl rfl (Nat.le_of_ble_eq_true rfl) ?_
  repeat' (first
    | (refine Ex.g ?_; first | refine Ex.seq ?_ | refine Ex.region ?_ | refine Ex.skip ?_ | refine Ex.ret ?_ | refine Ex.exit ?_ | (refine Ex.gCond ?_; first | refine Ex.condT rfl ?_ | refine Ex.condF rfl ?_ | refine Ex.condD rfl (fun hc => ?_) (fun hc => ?_) | refine Ex.condN rfl (fun hc => ?_) (fun hc => ?_) | refine Ex.cond rfl (fun hc => ?_) (fun hc => ?_)))
    | refine ExOps.nil ?_
    | (refine ExOps.gPC ?_; first | refine ExOps.opR (OpOk.len tOk rfl rfl rfl) rfl ?_)
    | (refine ExOps.gP ?_; first | (refine ExOps.gB ?_; refine ExOps.calcE tOk rfl rfl (by conv => lhs; simp [pev, upd, PV.cells, argSlots]) ?_) | refine ExOps.calcE tOk rfl rfl (by conv => lhs; whnf) ?_ | refine ExOps.opR (OpOk.loadR tOk rfl rfl rfl (.head _) rfl (by conv => lhs; whnf)) rfl ?_ | refine ExOps.opR (OpOk.loadR tOk rfl rfl rfl (.tail _ (.head _)) rfl (by conv => lhs; whnf)) rfl ?_ | refine ExOps.opR (OpOk.loadR tOk rfl rfl rfl (.tail _ (.tail _ (.head _))) rfl (by conv => lhs; whnf)) rfl ?_ | refine ExOps.opR (OpOk.loadR tOk rfl rfl rfl (.tail _ (.tail _ (.tail _ (.head _)))) rfl (by conv => lhs; whnf)) rfl ?_ | refine ExOps.opR0 (OpOk.store1 tOk rfl rfl rfl rfl [] _ rfl rfl (by conv => lhs; whnf) rfl rfl (by simp only [List.set, Nat.reduceAdd]; rfl)) ?_ | refine ExOps.opR0 (OpOk.store1 tOk rfl rfl rfl rfl [_] _ rfl rfl (by conv => lhs; whnf) rfl rfl (by simp only [List.set, Nat.reduceAdd]; rfl)) ?_ | refine ExOps.opR0 (OpOk.store1 tOk rfl rfl rfl rfl [_, _] _ rfl rfl (by conv => lhs; whnf) rfl rfl (by simp only [List.set, Nat.reduceAdd]; rfl)) ?_ | refine ExOps.opR0 (OpOk.store1 tOk rfl rfl rfl rfl [_, _, _] _ rfl rfl (by conv => lhs; whnf) rfl rfl (by simp only [List.set, Nat.reduceAdd]; rfl)) ?_)
    | (refine QSeq.g ?_; first | refine QSeq.norm ?_ | refine QSeq.ret ?_ | refine QSeq.exit ?_)
    | (refine QRet.g ?_; (first | ((first | refine QRet.end_ .nil ?_ | refine QRet.endN .nil ?_); try (focus first | rfl | (simp_all [packP]; done))) | ((first | refine QRet.same .nil ?_ ?_ | refine QRet.sameN .nil ?_ ?_); try (rotate_left; (focus first | rfl | (simp_all [packP]; done)); try (focus first | rfl | (simp_all [packP]; done))))))
    | fail)
theorem pkey_ok (p : Nat) (l : List Tok) (i e : Int) (x : ByteArray) (hl : Sane l) : Callable Tryz.prog 62 [.loc p 0, .str x] [pst p l i e] (Ret (.bool (decide (e = 0 ∧ keyF l i x = true))) [pst p l (if e = 0 ∧ keyF l i x = true then i + 1 else i) e]) := by
  refine Callable.of_ex tOk [.tmp 4] Tryz.func62 rfl rfl rfl (Nat.le_of_ble_eq_true rfl) ?_
  repeat' (first
    | (refine Ex.g ?_; first | refine Ex.seq ?_ | refine Ex.region ?_ | refine Ex.drawR mixed (by kernel_rfl) ?_ | refine Ex.skip ?_ | refine Ex.ret ?_ | refine Ex.exit ?_ | (refine Ex.gCond ?_; first | refine Ex.condT rfl ?_ | refine Ex.condF rfl ?_ | refine Ex.condD rfl (fun hc => ?_) (fun hc => ?_) | refine Ex.condN rfl (fun hc => ?_) (fun hc => ?_) | refine Ex.cond rfl (fun hc => ?_) (fun hc => ?_)))
    | refine ExOps.nil ?_
    | (refine ExOps.gPC ?_; first | refine ExOps.opR (OpOk.len tOk rfl rfl rfl) rfl ?_ | refine ExOps.opR (.cp rfl rfl rfl (h := key_ok l i x)) rfl ?_)
    | (refine ExOps.gP ?_; first | (refine ExOps.gB ?_; refine ExOps.calcE tOk rfl rfl (by conv => lhs; simp [pev, upd, PV.cells, argSlots]) ?_) | refine ExOps.calcE tOk rfl rfl (by conv => lhs; whnf) ?_ | refine ExOps.opR (OpOk.loadR tOk rfl rfl rfl (.head _) rfl (by conv => lhs; whnf)) rfl ?_ | refine ExOps.opR (OpOk.loadR tOk rfl rfl rfl (.tail _ (.head _)) rfl (by conv => lhs; whnf)) rfl ?_ | refine ExOps.opR (OpOk.loadR tOk rfl rfl rfl (.tail _ (.tail _ (.head _))) rfl (by conv => lhs; whnf)) rfl ?_ | refine ExOps.opR (OpOk.loadR tOk rfl rfl rfl (.tail _ (.tail _ (.tail _ (.head _)))) rfl (by conv => lhs; whnf)) rfl ?_ | refine ExOps.opR0 (OpOk.store1 tOk rfl rfl rfl rfl [] _ rfl rfl (by conv => lhs; whnf) rfl rfl (by simp only [List.set, Nat.reduceAdd]; rfl)) ?_ | refine ExOps.opR0 (OpOk.store1 tOk rfl rfl rfl rfl [_] _ rfl rfl (by conv => lhs; whnf) rfl rfl (by simp only [List.set, Nat.reduceAdd]; rfl)) ?_ | refine ExOps.opR0 (OpOk.store1 tOk rfl rfl rfl rfl [_, _] _ rfl rfl (by conv => lhs; whnf) rfl rfl (by simp only [List.set, Nat.reduceAdd]; rfl)) ?_ | refine ExOps.opR0 (OpOk.store1 tOk rfl rfl rfl rfl [_, _, _] _ rfl rfl (by conv => lhs; whnf) rfl rfl (by simp only [List.set, Nat.reduceAdd]; rfl)) ?_)
    | refine DRd.nil ?_
    | (refine DRd.gPC ?_; first | refine DRd.opR (OpOk.len tOk rfl rfl rfl) rfl ?_ | refine DRd.opR (.cp rfl rfl rfl (h := key_ok l i x)) rfl ?_)
    | (refine DRd.gP ?_; first | refine DRd.calcE tOk rfl rfl (by conv => lhs; whnf) ?_ | refine DRd.opR (OpOk.loadR tOk rfl rfl rfl (.head _) rfl (by conv => lhs; whnf)) rfl ?_ | refine DRd.opR (OpOk.loadR tOk rfl rfl rfl (.tail _ (.head _)) rfl (by conv => lhs; whnf)) rfl ?_ | refine DRd.opR (OpOk.loadR tOk rfl rfl rfl (.tail _ (.tail _ (.head _))) rfl (by conv => lhs; whnf)) rfl ?_ | refine DRd.opR (OpOk.loadR tOk rfl rfl rfl (.tail _ (.tail _ (.tail _ (.head _)))) rfl (by conv => lhs; whnf)) rfl ?_)
    | (refine DRd.gG ?_; first | (refine DRd.gIn rfl rfl ?_; first | (refine DRd.gGC ?_; first | refine DRd.opRG rfl rfl rfl (OpOk.len tOk rfl rfl rfl) rfl ?_ | refine DRd.opRG rfl rfl rfl (.cp rfl rfl rfl (h := key_ok l i x)) rfl ?_) | (first | refine DRd.calcGE tOk rfl rfl rfl rfl rfl (by conv => lhs; whnf) ?_ | refine DRd.opRG rfl rfl rfl (OpOk.loadR tOk rfl rfl rfl (.head _) rfl (by conv => lhs; whnf)) rfl ?_ | refine DRd.opRG rfl rfl rfl (OpOk.loadR tOk rfl rfl rfl (.tail _ (.head _)) rfl (by conv => lhs; whnf)) rfl ?_ | refine DRd.opRG rfl rfl rfl (OpOk.loadR tOk rfl rfl rfl (.tail _ (.tail _ (.head _))) rfl (by conv => lhs; whnf)) rfl ?_ | refine DRd.opRG rfl rfl rfl (OpOk.loadR tOk rfl rfl rfl (.tail _ (.tail _ (.tail _ (.head _)))) rfl (by conv => lhs; whnf)) rfl ?_)) | refine DRd.skipG rfl rfl rfl rfl ?_ | refine DRd.guardG rfl rfl rfl (by first | rfl | exact isDec _) (fun hg => ?_) (fun hg => ?_))
    | (refine QSeq.g ?_; first | refine QSeq.norm ?_ | refine QSeq.ret ?_ | refine QSeq.exit ?_)
    | (refine QRet.g ?_; (first | ((first | refine QRet.end_ (.cons (.tmpE (by conv => lhs; whnf)) .nil) ?_ | refine QRet.endN (.cons (.tmpE (by conv => lhs; whnf)) .nil) ?_); try (focus first | rfl | (simp_all [packP]; done))) | ((first | refine QRet.same (.cons (.tmpE (by conv => lhs; whnf)) .nil) ?_ ?_ | refine QRet.sameN (.cons (.tmpE (by conv => lhs; whnf)) .nil) ?_ ?_); try (rotate_left; (focus first | rfl | (simp_all [packP]; done)); try (focus first | rfl | (simp_all [packP]; done))))))
    | fail)
  · simp_all [packP]
  · have h := keyF_in ‹_›
    have h1 := hl.1
    rw [if_pos ⟨by omega, ‹_›⟩, wrap_id (by omega) (by omega)]; rfl
theorem node_ok (k : Int) (s : ByteArray) (ks : PV) (h1 : ks = .nils ∨ (∃ cs n, ks = .ful cs n) ∨ (∃ v cs n, ks = .own v cs n) ∨ (∃ cs n, ks = .slc cs n) ∨ ks = .any1) : Callable Tryz.prog 61 [.int .i64 k, .str s, ks] [] (Ret (.ptr [.int .i64 k, .int .i64 0, .str s, .str ⟨#[]⟩, ks]) []) := by
  rcases h1 with rfl | ⟨cs, n, rfl⟩ | ⟨v, cs, n, rfl⟩ | ⟨cs, n, rfl⟩ | rfl
  all_goals
    refine Callable.of_ex tOk [.tmp 6] Tryz.func61 rfl rfl rfl (Nat.le_of_ble_eq_true rfl) ?_
    repeat' (first
      | (refine Ex.g ?_; first | refine Ex.seq ?_ | refine Ex.region ?_ | refine Ex.skip ?_ | refine Ex.ret ?_ | refine Ex.exit ?_ | (refine Ex.gCond ?_; first | refine Ex.condT rfl ?_ | refine Ex.condF rfl ?_ | refine Ex.condD rfl (fun hc => ?_) (fun hc => ?_) | refine Ex.condN rfl (fun hc => ?_) (fun hc => ?_) | refine Ex.cond rfl (fun hc => ?_) (fun hc => ?_)))
      | refine ExOps.nil ?_
      | (refine ExOps.gPC ?_; first | refine ExOps.opR (OpOk.len tOk rfl rfl rfl) rfl ?_)
      | (refine ExOps.gP ?_; first | (refine ExOps.gB ?_; refine ExOps.calcE tOk rfl rfl (by conv => lhs; simp [pev, upd, PV.cells, argSlots]) ?_) | refine ExOps.calcE tOk rfl rfl (by conv => lhs; whnf) ?_ | refine ExOps.opR (OpOk.boxPtr rfl rfl rfl rfl) rfl ?_)
      | (refine QSeq.g ?_; first | refine QSeq.norm ?_ | refine QSeq.ret ?_ | refine QSeq.exit ?_)
      | (refine QRet.g ?_; (first | ((first | refine QRet.end_ (.cons (.tmpE (by conv => lhs; whnf)) .nil) ?_ | refine QRet.endN (.cons (.tmpE (by conv => lhs; whnf)) .nil) ?_); try (focus first | rfl | (simp_all [packP]; done))) | ((first | refine QRet.same (.cons (.tmpE (by conv => lhs; whnf)) .nil) ?_ ?_ | refine QRet.sameN (.cons (.tmpE (by conv => lhs; whnf)) .nil) ?_ ?_); try (rotate_left; (focus first | rfl | (simp_all [packP]; done)); try (focus first | rfl | (simp_all [packP]; done))))))
      | fail)
theorem pmust_ok (p : Nat) (l : List Tok) (i e : Int) (x : ByteArray) (hl : Sane l) : Callable Tryz.prog 60 [.loc p 0, .str x] [pst p l i e] (Ret (.tup []) [pst p l (if e = 0 ∧ keyF l i x = true then i + 1 else i) (if e = 0 ∧ ¬ keyF l i x = true then 6 else e)]) := by
  refine Callable.of_ex tOk [] Tryz.func60 rfl rfl rfl (Nat.le_of_ble_eq_true rfl) ?_
  repeat' (first
    | (refine Ex.g ?_; first | refine Ex.seq ?_ | refine Ex.region ?_ | refine Ex.skip ?_ | refine Ex.ret ?_ | refine Ex.exit ?_ | (refine Ex.gCond ?_; first | refine Ex.condT rfl ?_ | refine Ex.condF rfl ?_ | refine Ex.condD rfl (fun hc => ?_) (fun hc => ?_) | refine Ex.condN rfl (fun hc => ?_) (fun hc => ?_) | refine Ex.cond rfl (fun hc => ?_) (fun hc => ?_)))
    | refine ExOps.nil ?_
    | (refine ExOps.gPC ?_; first | refine ExOps.opR (OpOk.len tOk rfl rfl rfl) rfl ?_ | refine ExOps.opR (OpOk.callA rfl rfl rfl [] [] (by (repeat' (first | exact WkL.nil | refine WkL.cons ?_ ?_ | exact Wk.refl _ | exact Wk.own _ _ _ | exact Wk.ful _ _ | exact Wk.nils)); first | done | fail) (pkey_ok p l i e x hl) rfl) rfl ?_ | refine ExOps.opR (OpOk.callA rfl rfl rfl [] [] (by (repeat' (first | exact WkL.nil | refine WkL.cons ?_ ?_ | exact Wk.refl _ | exact Wk.own _ _ _ | exact Wk.ful _ _ | exact Wk.nils)); first | done | fail) (pfail_ok p l _ e 6) rfl) rfl ?_)
    | (refine ExOps.gP ?_; first | (refine ExOps.gB ?_; refine ExOps.calcE tOk rfl rfl (by conv => lhs; simp [pev, upd, PV.cells, argSlots]) ?_) | refine ExOps.calcE tOk rfl rfl (by conv => lhs; whnf) ?_)
    | (refine QSeq.g ?_; first | refine QSeq.norm ?_ | refine QSeq.ret ?_ | refine QSeq.exit ?_)
    | (refine QRet.g ?_; (first | ((first | refine QRet.end_ .nil ?_ | refine QRet.endN .nil ?_); try (focus first | rfl | (simp_all [packP]; done))) | ((first | refine QRet.same .nil ?_ ?_ | refine QRet.sameN .nil ?_ ?_); try (rotate_left; (focus first | rfl | (simp_all [packP]; done)); try (focus first | rfl | (simp_all [packP]; done))))))
    | fail)
  · rfl
  · by_cases he : e = 0 <;> by_cases hk : keyF l i x = true <;> simp_all
theorem pname_ok (p : Nat) (l : List Tok) (i e : Int) (hl : Sane l) : Callable Tryz.prog 58 [.loc p 0] [pst p l i e] (Ret (.str (if e = 0 ∧ nameAt l i = true then textAt l i else ⟨#[]⟩)) [pst p l (if e = 0 ∧ nameAt l i = true then i + 1 else i) (if e = 0 ∧ ¬ nameAt l i = true then 6 else e)]) := by
  refine Callable.of_ex tOk [.tmp 2] Tryz.func58 rfl rfl rfl (Nat.le_of_ble_eq_true rfl) ?_
  repeat' (first
    | (refine Ex.g ?_; first | refine Ex.seq ?_ | refine Ex.region ?_ | refine Ex.drawR mixed (by kernel_rfl) ?_ | refine Ex.skip ?_ | refine Ex.ret ?_ | refine Ex.exit ?_ | (refine Ex.gCond ?_; first | refine Ex.condT rfl ?_ | refine Ex.condF rfl ?_ | refine Ex.condD rfl (fun hc => ?_) (fun hc => ?_) | refine Ex.condN rfl (fun hc => ?_) (fun hc => ?_) | refine Ex.cond rfl (fun hc => ?_) (fun hc => ?_)))
    | refine ExOps.nil ?_
    | (refine ExOps.gPC ?_; first | refine ExOps.opR (OpOk.len tOk rfl rfl rfl) rfl ?_ | refine ExOps.opR (.cp rfl rfl rfl (h := name_ok l i hl)) rfl ?_ | refine ExOps.opR (OpOk.callA rfl rfl rfl [] [] (by (repeat' (first | exact WkL.nil | refine WkL.cons ?_ ?_ | exact Wk.refl _ | exact Wk.own _ _ _ | exact Wk.ful _ _ | exact Wk.nils)); first | done | fail) (pfail_ok p l _ e 6) rfl) rfl ?_)
    | (refine ExOps.gP ?_; first | (refine ExOps.gB ?_; refine ExOps.calcE tOk rfl rfl (by conv => lhs; simp [pev, upd, PV.cells, argSlots]) ?_) | refine ExOps.calcE tOk rfl rfl (by conv => lhs; whnf) ?_ | refine ExOps.opR (OpOk.loadR tOk rfl rfl rfl (.head _) rfl (by conv => lhs; whnf)) rfl ?_ | refine ExOps.opR (OpOk.loadR tOk rfl rfl rfl (.tail _ (.head _)) rfl (by conv => lhs; whnf)) rfl ?_ | refine ExOps.opR (OpOk.loadR tOk rfl rfl rfl (.tail _ (.tail _ (.head _))) rfl (by conv => lhs; whnf)) rfl ?_ | refine ExOps.opR (OpOk.loadR tOk rfl rfl rfl (.tail _ (.tail _ (.tail _ (.head _)))) rfl (by conv => lhs; whnf)) rfl ?_ | refine ExOps.opR0 (OpOk.store1 tOk rfl rfl rfl rfl [] _ rfl rfl (by conv => lhs; whnf) rfl rfl (by simp only [List.set, Nat.reduceAdd]; rfl)) ?_ | refine ExOps.opR0 (OpOk.store1 tOk rfl rfl rfl rfl [_] _ rfl rfl (by conv => lhs; whnf) rfl rfl (by simp only [List.set, Nat.reduceAdd]; rfl)) ?_ | refine ExOps.opR0 (OpOk.store1 tOk rfl rfl rfl rfl [_, _] _ rfl rfl (by conv => lhs; whnf) rfl rfl (by simp only [List.set, Nat.reduceAdd]; rfl)) ?_ | refine ExOps.opR0 (OpOk.store1 tOk rfl rfl rfl rfl [_, _, _] _ rfl rfl (by conv => lhs; whnf) rfl rfl (by simp only [List.set, Nat.reduceAdd]; rfl)) ?_)
    | (refine ExOps.gG ?_; first | (refine ExOps.gIn rfl rfl ?_; first | refine ExOps.calcGE tOk rfl rfl rfl rfl rfl (by conv => lhs; whnf) ?_ | refine ExOps.opRG rfl rfl rfl (OpOk.loadR tOk rfl rfl rfl (.head _) rfl (by conv => lhs; whnf)) rfl ?_ | refine ExOps.opRG rfl rfl rfl (OpOk.loadR tOk rfl rfl rfl (.tail _ (.head _)) rfl (by conv => lhs; whnf)) rfl ?_ | refine ExOps.opRG rfl rfl rfl (OpOk.loadR tOk rfl rfl rfl (.tail _ (.tail _ (.head _))) rfl (by conv => lhs; whnf)) rfl ?_ | refine ExOps.opRG rfl rfl rfl (OpOk.loadR tOk rfl rfl rfl (.tail _ (.tail _ (.tail _ (.head _)))) rfl (by conv => lhs; whnf)) rfl ?_) | refine ExOps.skipGU rfl rfl rfl rfl ?_ | refine ExOps.skipU rfl rfl rfl ?_ | (refine ExOps.gOr2 ?_; refine' ExOps.or2 tOk rfl rfl rfl rfl rfl rfl rfl (by first | rfl | exact isDec _) (fun hg => ?_) ?_; rotate_left 3) | ((fail_if_success refine ExOps.gIn rfl rfl ?_); first | refine ExOps.guardD rfl rfl rfl (fun hg => ?_) (fun hg => ?_) | refine ExOps.guard rfl rfl rfl (fun hg => ?_) (fun hg => ?_)))
    | refine DRd.nil ?_
    | (refine DRd.gPC ?_; first | refine DRd.opR (OpOk.len tOk rfl rfl rfl) rfl ?_ | refine DRd.opR (.cp rfl rfl rfl (h := name_ok l i hl)) rfl ?_ | refine DRd.opR (OpOk.callA rfl rfl rfl [] [] (by (repeat' (first | exact WkL.nil | refine WkL.cons ?_ ?_ | exact Wk.refl _ | exact Wk.own _ _ _ | exact Wk.ful _ _ | exact Wk.nils)); first | done | fail) (pfail_ok p l _ e 6) rfl) rfl ?_)
    | (refine DRd.gP ?_; first | refine DRd.calcE tOk rfl rfl (by conv => lhs; whnf) ?_ | refine DRd.opR (OpOk.loadR tOk rfl rfl rfl (.head _) rfl (by conv => lhs; whnf)) rfl ?_ | refine DRd.opR (OpOk.loadR tOk rfl rfl rfl (.tail _ (.head _)) rfl (by conv => lhs; whnf)) rfl ?_ | refine DRd.opR (OpOk.loadR tOk rfl rfl rfl (.tail _ (.tail _ (.head _))) rfl (by conv => lhs; whnf)) rfl ?_ | refine DRd.opR (OpOk.loadR tOk rfl rfl rfl (.tail _ (.tail _ (.tail _ (.head _)))) rfl (by conv => lhs; whnf)) rfl ?_)
    | (refine QSeq.g ?_; first | refine QSeq.norm ?_ | refine QSeq.ret ?_ | refine QSeq.exit ?_)
    | (refine QRet.g ?_; (first | ((first | refine QRet.end_ (.cons (.tmpE (by conv => lhs; whnf)) .nil) ?_ | refine QRet.endN (.cons (.tmpE (by conv => lhs; whnf)) .nil) ?_); try (focus first | rfl | (simp_all [packP]; done))) | ((first | refine QRet.same (.cons (.tmpE (by conv => lhs; whnf)) .nil) ?_ ?_ | refine QRet.sameN (.cons (.tmpE (by conv => lhs; whnf)) .nil) ?_ ?_); try (rotate_left; (focus first | rfl | (simp_all [packP]; done)); try (focus first | rfl | (simp_all [packP]; done))))))
    | refine ⟨rfl, (by first | rfl | exact isDec _), (by (repeat' (first | exact WkS.refl _ | refine WkS.upd ?_ Wk.junk)); first | done | fail), rfl⟩
    | fail)
  · by_cases he : e = 0 <;> by_cases hk : nameAt l i = true <;> simp_all [packP]
  · by_cases he : e = 0 <;> by_cases hk : nameAt l i = true <;> simp_all
  · by_cases he : e = 0 <;> by_cases hk : nameAt l i = true <;> simp_all [packP]
  · have he : e = 0 ∧ nameAt l i = true := by
      by_cases he : e = 0 <;> by_cases hk : nameAt l i = true <;> simp_all
    have h := nameAt_in he.2
    have h1 := hl.1
    rw [if_pos he, if_neg (by simp [he.2]), wrap_id (by omega) (by omega)]; rfl
end Go.Proofs.YtceoldiblphahaaGreatDoor
