/- Contracts of packages runes, names, lexer.Word. -/
import Derived.Test.YtceoldiblphahaaGreatDoorMqS
import Derived.Test.YtceoldiblphahaaGreatDoorMqQ
set_option linter.unusedVariables false
set_option linter.unusedSimpArgs false
set_option linter.unusedSectionVars false
namespace Go.Proofs.YtceoldiblphahaaGreatDoor
open Go.Mq
attribute [local irreducible] Ex ExOps QSeq QBlock QLoop QRet OpOk Callable DEx DRd Melt Wk Tree.pv pvs toks opv strs

attribute [local irreducible] classF
set_option maxHeartbeats 1000000

theorem validRune_ok (r : Int) : Callable Tryz.prog 85 [.int .i32 r] [] (Ret (.bool (decide ((0 ≤ r ∧ r < 55296) ∨ (57343 < r ∧ r ≤ 1114111)))) []) := by
  refine Callable.of_ex tOk [.tmp 2] Tryz.func85 rfl rfl rfl (Nat.le_of_ble_eq_true rfl) ?_
  repeat' (first
    | (refine Ex.g ?_; first | refine Ex.seq ?_ | refine Ex.region ?_ | refine Ex.skip ?_ | refine Ex.ret ?_ | refine Ex.exit ?_ | refine Ex.block ?_ | (refine Ex.gCond ?_; first | refine Ex.condT rfl ?_ | refine Ex.condF rfl ?_ | refine Ex.condD rfl (fun hc => ?_) (fun hc => ?_) | refine Ex.condN rfl (fun hc => ?_) (fun hc => ?_) | refine Ex.cond rfl (fun hc => ?_) (fun hc => ?_)))
    | refine ExOps.nil ?_
    | (refine ExOps.gPC ?_; first | refine ExOps.opR (OpOk.len tOk rfl rfl rfl) rfl ?_)
    | (refine ExOps.gP ?_; first | (refine ExOps.gB ?_; refine ExOps.calcE tOk rfl rfl (by conv => lhs; simp [pev, upd, PV.cells, argSlots]) ?_) | refine ExOps.calcE tOk rfl rfl (by conv => lhs; whnf) ?_)
    | (refine ExOps.gG ?_; first | (refine ExOps.gIn rfl rfl ?_; first | refine ExOps.calcGE tOk rfl rfl rfl rfl rfl (by conv => lhs; whnf) ?_) | refine ExOps.skipGU rfl rfl rfl rfl ?_ | refine ExOps.skipU rfl rfl rfl ?_ | (refine ExOps.gAnd2 ?_; refine' ExOps.and2 tOk rfl rfl rfl rfl rfl rfl rfl (by first | rfl | exact isDec _) (fun hg => ?_) ?_; rotate_left 3) | ((fail_if_success refine ExOps.gIn rfl rfl ?_); first | refine ExOps.guardD rfl rfl rfl (fun hg => ?_) (fun hg => ?_) | refine ExOps.guard rfl rfl rfl (fun hg => ?_) (fun hg => ?_)))
    | (refine QSeq.g ?_; first | refine QSeq.norm ?_ | refine QSeq.ret ?_ | refine QSeq.exit ?_)
    | (refine QBlock.g ?_; first | refine QBlock.norm ?_ | refine QBlock.ret ?_ | refine QBlock.hit rfl ?_ | refine QBlock.miss rfl ?_)
    | (refine QRet.g ?_; (first | ((first | refine QRet.end_ (.cons (.tmpE (by conv => lhs; whnf)) .nil) ?_ | refine QRet.endN (.cons (.tmpE (by conv => lhs; whnf)) .nil) ?_); try (focus first | rfl | (refine congrArg PV.bool (Eq.symm ?_); (first | refine decide_eq_true ?_ | refine decide_eq_false ?_); omega; done))) | ((first | refine QRet.same (.cons (.tmpE (by conv => lhs; whnf)) .nil) ?_ ?_ | refine QRet.sameN (.cons (.tmpE (by conv => lhs; whnf)) .nil) ?_ ?_); try (rotate_left; (focus first | rfl | (refine congrArg PV.bool (Eq.symm ?_); (first | refine decide_eq_true ?_ | refine decide_eq_false ?_); omega; done)); try (focus first | rfl | (refine congrArg PV.bool (Eq.symm ?_); (first | refine decide_eq_true ?_ | refine decide_eq_false ?_); omega; done))))))
    | refine ⟨rfl, (by first | rfl | exact isDec _), (by (repeat' (first | exact WkS.refl _ | refine WkS.upd ?_ Wk.junk)); first | done | fail), rfl⟩
    | fail)

theorem class_ok (r : Int) : Callable Tryz.prog 50 [.int .i32 r] [] (Ret (.int .i64 (classF r)) []) := by
  refine Callable.of_ex tOk [.tmp 2] Tryz.func50 rfl rfl rfl (Nat.le_of_ble_eq_true rfl) ?_
  repeat' (first
    | (refine Ex.g ?_; first | refine Ex.seq ?_ | refine Ex.region ?_ | refine Ex.skip ?_ | refine Ex.ret ?_ | refine Ex.exit ?_ | refine Ex.block ?_ | (refine Ex.gCond ?_; first | refine Ex.condT rfl ?_ | refine Ex.condF rfl ?_ | refine Ex.condD rfl (fun hc => ?_) (fun hc => ?_) | refine Ex.condN rfl (fun hc => ?_) (fun hc => ?_) | refine Ex.cond rfl (fun hc => ?_) (fun hc => ?_)))
    | refine ExOps.nil ?_
    | (refine ExOps.gPC ?_; first | refine ExOps.opR (OpOk.len tOk rfl rfl rfl) rfl ?_ | refine ExOps.opR (.cp rfl rfl rfl (h := validRune_ok r)) rfl ?_)
    | (refine ExOps.gP ?_; first | (refine ExOps.gB ?_; refine ExOps.calcE tOk rfl rfl (by conv => lhs; simp [pev, upd, PV.cells, argSlots]) ?_) | refine ExOps.calcE tOk rfl rfl (by conv => lhs; whnf) ?_)
    | (refine ExOps.gG ?_; first | (refine ExOps.gIn rfl rfl ?_; first | (refine ExOps.gGC ?_; first | refine ExOps.opRG rfl rfl rfl (OpOk.len tOk rfl rfl rfl) rfl ?_ | refine ExOps.opRG rfl rfl rfl (.cp rfl rfl rfl (h := validRune_ok r)) rfl ?_) | (first | refine ExOps.calcGE tOk rfl rfl rfl rfl rfl (by conv => lhs; whnf) ?_)) | refine ExOps.skipGU rfl rfl rfl rfl ?_ | refine ExOps.skipU rfl rfl rfl ?_ | (refine ExOps.gAnd2 ?_; refine' ExOps.and2 tOk rfl rfl rfl rfl rfl rfl rfl (by first | rfl | exact isDec _) (fun hg => ?_) ?_; rotate_left 3) | ((fail_if_success refine ExOps.gIn rfl rfl ?_); first | refine ExOps.guardD rfl rfl rfl (fun hg => ?_) (fun hg => ?_) | refine ExOps.guard rfl rfl rfl (fun hg => ?_) (fun hg => ?_)))
    | (refine QSeq.g ?_; first | refine QSeq.norm ?_ | refine QSeq.ret ?_ | refine QSeq.exit ?_)
    | (refine QBlock.g ?_; first | refine QBlock.norm ?_ | refine QBlock.ret ?_ | refine QBlock.hit rfl ?_ | refine QBlock.miss rfl ?_)
    | (refine QRet.g ?_; (first | ((first | refine QRet.end_ (.cons (.tmpE (by conv => lhs; whnf)) .nil) ?_ | refine QRet.endN (.cons (.tmpE (by conv => lhs; whnf)) .nil) ?_); try (focus first | rfl | (refine congrArg (PV.int .i64) ?_; unfold classF; repeat' split <;> omega; done))) | ((first | refine QRet.same (.cons (.tmpE (by conv => lhs; whnf)) .nil) ?_ ?_ | refine QRet.sameN (.cons (.tmpE (by conv => lhs; whnf)) .nil) ?_ ?_); try (rotate_left; (focus first | rfl | (refine congrArg (PV.int .i64) ?_; unfold classF; repeat' split <;> omega; done)); try (focus first | rfl | (refine congrArg (PV.int .i64) ?_; unfold classF; repeat' split <;> omega; done))))))
    | refine ⟨rfl, (by first | rfl | exact isDec _), (by (repeat' (first | exact WkS.refl _ | refine WkS.upd ?_ Wk.junk)); first | done | fail), rfl⟩
    | fail)

attribute [local irreducible] nameF wordF Utf8.decode
theorem rname_ok (s0 : ByteArray) (hs : s0.size ≤ 9223372036854775807) : Callable Tryz.prog 63 [.str s0] [] (Ret (.bool (nameF s0)) []) := by
  refine Callable.of_ex tOk [.tmp 2] Tryz.func63 rfl rfl rfl (Nat.le_of_ble_eq_true rfl) ?_
  repeat' (first
    | (refine Ex.g ?_; first | refine Ex.seq ?_ | refine Ex.region ?_ | refine Ex.skip ?_ | refine Ex.ret ?_ | refine Ex.exit ?_ | refine Ex.block ?_ | (refine Ex.gCond ?_; first | refine Ex.condT rfl ?_ | refine Ex.condF rfl ?_ | refine Ex.condD rfl (fun hc => ?_) (fun hc => ?_) | refine Ex.condN rfl (fun hc => ?_) (fun hc => ?_) | refine Ex.cond rfl (fun hc => ?_) (fun hc => ?_)))
    | refine ExOps.nil ?_
    | (refine ExOps.gPC ?_; first | refine ExOps.opR (OpOk.len tOk rfl rfl rfl) rfl ?_ | refine ExOps.opR (.cp rfl rfl rfl (h := valid_ok s0 hs)) rfl ?_)
    | (refine ExOps.gP ?_; first | (refine ExOps.gB ?_; refine ExOps.calcE tOk rfl rfl (by conv => lhs; simp [pev, upd, PV.cells, argSlots]) ?_) | refine ExOps.calcE tOk rfl rfl (by conv => lhs; whnf) ?_ | (refine ExOps.op (OpOk.rangeStr tOk rfl rfl rfl rfl) rfl ?_; rintro _ _ ⟨b, rfl, rfl⟩))
    | (refine ExOps.gG ?_; first | (refine ExOps.gIn rfl rfl ?_; first | (refine ExOps.gGC ?_; first | refine ExOps.opRG rfl rfl rfl (OpOk.len tOk rfl rfl rfl) rfl ?_ | refine ExOps.opRG rfl rfl rfl (.cp rfl rfl rfl (h := valid_ok s0 hs)) rfl ?_) | (first | refine ExOps.calcGE tOk rfl rfl rfl rfl rfl (by conv => lhs; whnf) ?_)) | refine ExOps.skipGU rfl rfl rfl rfl ?_ | refine ExOps.skipU rfl rfl rfl ?_ | (refine ExOps.gOr2 ?_; refine' ExOps.or2 tOk rfl rfl rfl rfl rfl rfl rfl (by first | rfl | exact isDec _) (fun hg => ?_) ?_; rotate_left 3) | (refine ExOps.gOr3 ?_; refine' ExOps.or3 tOk rfl rfl rfl rfl rfl rfl rfl (by first | rfl | exact isDec _) (fun hg => ?_) ?_; rotate_left 3) | ((fail_if_success refine ExOps.gIn rfl rfl ?_); first | refine ExOps.guardD rfl rfl rfl (fun hg => ?_) (fun hg => ?_) | refine ExOps.guard rfl rfl rfl (fun hg => ?_) (fun hg => ?_)))
    | (refine QSeq.g ?_; first | refine QSeq.norm ?_ | refine QSeq.ret ?_ | refine QSeq.exit ?_)
    | (refine QBlock.g ?_; first | refine QBlock.norm ?_ | refine QBlock.ret ?_ | refine QBlock.hit rfl ?_ | refine QBlock.miss rfl ?_)
    | (refine QLoop.g ?_; first | refine QLoop.ret ?_ | refine QLoop.exit ?_)
    | (refine QRet.g ?_; (first | ((first | refine QRet.end_ (.cons (.tmpE (by conv => lhs; whnf)) .nil) ?_ | refine QRet.endN (.cons (.tmpE (by conv => lhs; whnf)) .nil) ?_); try (focus first | rfl | (simp_all [packP]; done))) | ((first | refine QRet.same (.cons (.tmpE (by conv => lhs; whnf)) .nil) ?_ ?_ | refine QRet.sameN (.cons (.tmpE (by conv => lhs; whnf)) .nil) ?_ ?_); try (rotate_left; (focus first | rfl | (simp_all [packP]; done)); try (focus first | rfl | (simp_all [packP]; done))))))
    | refine ⟨rfl, (by first | rfl | exact isDec _), (by (repeat' (first | exact WkS.refl _ | refine WkS.upd ?_ Wk.junk)); first | done | fail), rfl⟩
    | fail)
  · rw [nameF, if_pos hc]; rfl
  have h0 : nameF s0 = nameLoop s0.size s0 0 := by rw [nameF, if_neg hc]
  refine Ex.loop (fun m s σ => ∃ pos : Nat, (s0.size ≤ pos + m) ∧ (nameF s0 = nameLoop m s0 pos) ∧ s 18 = .loc b 0 ∧ σ = [.iter b s0 pos]) (s0.size) ⟨0, (by first | rfl | assumption | omega | exact slot_check rfl | (simp; done) | (simp; omega) | fail), (by first | rfl | assumption | omega | exact slot_check rfl | (simp; done) | (simp; omega) | fail), (by first | rfl | assumption | omega | exact slot_check rfl | (simp; done) | (simp; omega) | fail), rfl⟩ ?_
  rintro m s σ ⟨pos, hi0, hi1, h18, rfl⟩
  refine (Ex.have_ (t := 18) h18 ?_)
  by_cases hp : pos < s0.size
  · have hw := Lib.decode_width_pos s0 pos hp
    obtain ⟨m, rfl⟩ : ∃ k, m = k + 1 := ⟨m - 1, by omega⟩
    rw [nameLoop_in hp] at hi1
    repeat' (first
      | (refine Ex.g ?_; first | refine Ex.seq ?_ | refine Ex.region ?_ | refine Ex.skip ?_ | refine Ex.ret ?_ | refine Ex.exit ?_ | refine Ex.block ?_ | (refine Ex.gCond ?_; first | refine Ex.condT rfl ?_ | refine Ex.condF rfl ?_ | refine Ex.condD rfl (fun hc => ?_) (fun hc => ?_) | refine Ex.condN rfl (fun hc => ?_) (fun hc => ?_) | refine Ex.cond rfl (fun hc => ?_) (fun hc => ?_)))
      | refine ExOps.nil ?_
      | (refine ExOps.gPC ?_; first | refine ExOps.opR (OpOk.len tOk rfl rfl rfl) rfl ?_ | refine ExOps.opR (.cp rfl rfl rfl (h := class_ok _)) rfl ?_)
      | (refine ExOps.gP ?_; first | (refine ExOps.gB ?_; refine ExOps.calcE tOk rfl rfl (by conv => lhs; simp [pev, upd, PV.cells, argSlots]) ?_) | refine ExOps.calcE tOk rfl rfl (by conv => lhs; whnf) ?_ | refine ExOps.opR (OpOk.nextIn rfl rfl [] rfl hp) rfl ?_)
      | (refine ExOps.gG ?_; first | (refine ExOps.gIn rfl rfl ?_; first | (refine ExOps.gGC ?_; first | refine ExOps.opRG rfl rfl rfl (OpOk.len tOk rfl rfl rfl) rfl ?_ | refine ExOps.opRG rfl rfl rfl (.cp rfl rfl rfl (h := class_ok _)) rfl ?_) | (first | refine ExOps.calcGE tOk rfl rfl rfl rfl rfl (by conv => lhs; whnf) ?_ | refine ExOps.opRG rfl rfl rfl (OpOk.nextIn rfl rfl [] rfl hp) rfl ?_)) | refine ExOps.skipGU rfl rfl rfl rfl ?_ | refine ExOps.skipU rfl rfl rfl ?_ | (refine ExOps.gOr2 ?_; refine' ExOps.or2 tOk rfl rfl rfl rfl rfl rfl rfl (by first | rfl | exact isDec _) (fun hg => ?_) ?_; rotate_left 3) | (refine ExOps.gOr3 ?_; refine' ExOps.or3 tOk rfl rfl rfl rfl rfl rfl rfl (by first | rfl | exact isDec _) (fun hg => ?_) ?_; rotate_left 3) | ((fail_if_success refine ExOps.gIn rfl rfl ?_); first | refine ExOps.guardD rfl rfl rfl (fun hg => ?_) (fun hg => ?_) | refine ExOps.guard rfl rfl rfl (fun hg => ?_) (fun hg => ?_)))
      | (refine QSeq.g ?_; first | refine QSeq.norm ?_ | refine QSeq.ret ?_ | refine QSeq.exit ?_)
      | (refine QBlock.g ?_; first | refine QBlock.norm ?_ | refine QBlock.ret ?_ | refine QBlock.hit rfl ?_ | refine QBlock.miss rfl ?_)
      | (refine QLoop.g ?_; first | refine QLoop.ret ?_ | refine QLoop.exit ?_)
      | (refine QRet.g ?_; (first | ((first | refine QRet.end_ (.cons (.tmpE (by conv => lhs; whnf)) .nil) ?_ | refine QRet.endN (.cons (.tmpE (by conv => lhs; whnf)) .nil) ?_); try (focus first | rfl | (simp_all [packP]; done))) | ((first | refine QRet.same (.cons (.tmpE (by conv => lhs; whnf)) .nil) ?_ ?_ | refine QRet.sameN (.cons (.tmpE (by conv => lhs; whnf)) .nil) ?_ ?_); try (rotate_left; (focus first | rfl | (simp_all [packP]; done)); try (focus first | rfl | (simp_all [packP]; done))))))
      | refine ⟨rfl, (by first | rfl | exact isDec _), (by (repeat' (first | exact WkS.refl _ | refine WkS.upd ?_ Wk.junk)); first | done | fail), rfl⟩
      | fail)
    all_goals try (
      have hr : nameRune pos (Utf8.decode s0 pos).1 = false := by (unfold nameRune; (repeat' split) <;> first | rfl | (exfalso; omega) | (simp; omega) | fail)
      rw [hr, Bool.false_and] at hi1; rw [hi1]; rfl)
    all_goals
      have hr : nameRune pos (Utf8.decode s0 pos).1 = true := by (unfold nameRune; (repeat' split) <;> first | rfl | (exfalso; omega) | (simp; omega) | fail)
      rw [hr, Bool.true_and] at hi1
      exact QLoop.next (m) (by omega) ⟨pos + (Utf8.decode s0 pos).2, (by first | rfl | omega | exact (congrArg (PV.int .i64) (by (try simp only [Int.toNat_natCast]); (try rw [wrap_id (by omega) (by omega)]); (try split) <;> omega)) | assumption | (simp; done) | fail), (by first | rfl | omega | exact (congrArg (PV.int .i64) (by (try simp only [Int.toNat_natCast]); (try rw [wrap_id (by omega) (by omega)]); (try split) <;> omega)) | assumption | (simp; done) | fail), (by first | rfl | omega | exact (congrArg (PV.int .i64) (by (try simp only [Int.toNat_natCast]); (try rw [wrap_id (by omega) (by omega)]); (try split) <;> omega)) | assumption | (simp; done) | fail), rfl⟩
  · rw [nameLoop_out hp] at hi1
    repeat' (first
      | (refine Ex.g ?_; first | refine Ex.seq ?_ | refine Ex.region ?_ | refine Ex.skip ?_ | refine Ex.ret ?_ | refine Ex.exit ?_ | refine Ex.block ?_ | (refine Ex.gCond ?_; first | refine Ex.condT rfl ?_ | refine Ex.condF rfl ?_ | refine Ex.condD rfl (fun hc => ?_) (fun hc => ?_) | refine Ex.condN rfl (fun hc => ?_) (fun hc => ?_) | refine Ex.cond rfl (fun hc => ?_) (fun hc => ?_)))
      | refine ExOps.nil ?_
      | (refine ExOps.gPC ?_; first | refine ExOps.opR (OpOk.len tOk rfl rfl rfl) rfl ?_)
      | (refine ExOps.gP ?_; first | (refine ExOps.gB ?_; refine ExOps.calcE tOk rfl rfl (by conv => lhs; simp [pev, upd, PV.cells, argSlots]) ?_) | refine ExOps.calcE tOk rfl rfl (by conv => lhs; whnf) ?_ | refine ExOps.opR (OpOk.nextEnd rfl rfl [] rfl hp) rfl ?_)
      | (refine ExOps.gG ?_; first | (refine ExOps.gIn rfl rfl ?_; first | (refine ExOps.gGC ?_; first | refine ExOps.opRG rfl rfl rfl (OpOk.len tOk rfl rfl rfl) rfl ?_) | (first | refine ExOps.calcGE tOk rfl rfl rfl rfl rfl (by conv => lhs; whnf) ?_ | refine ExOps.opRG rfl rfl rfl (OpOk.nextEnd rfl rfl [] rfl hp) rfl ?_)) | refine ExOps.skipGU rfl rfl rfl rfl ?_ | refine ExOps.skipU rfl rfl rfl ?_ | (refine ExOps.gOr2 ?_; refine' ExOps.or2 tOk rfl rfl rfl rfl rfl rfl rfl (by first | rfl | exact isDec _) (fun hg => ?_) ?_; rotate_left 3) | (refine ExOps.gOr3 ?_; refine' ExOps.or3 tOk rfl rfl rfl rfl rfl rfl rfl (by first | rfl | exact isDec _) (fun hg => ?_) ?_; rotate_left 3) | ((fail_if_success refine ExOps.gIn rfl rfl ?_); first | refine ExOps.guardD rfl rfl rfl (fun hg => ?_) (fun hg => ?_) | refine ExOps.guard rfl rfl rfl (fun hg => ?_) (fun hg => ?_)))
      | (refine QSeq.g ?_; first | refine QSeq.norm ?_ | refine QSeq.ret ?_ | refine QSeq.exit ?_)
      | (refine QBlock.g ?_; first | refine QBlock.norm ?_ | refine QBlock.ret ?_ | refine QBlock.hit rfl ?_ | refine QBlock.miss rfl ?_)
      | (refine QLoop.g ?_; first | refine QLoop.ret ?_ | refine QLoop.exit ?_)
      | (refine QRet.g ?_; (first | ((first | refine QRet.end_ (.cons (.tmpE (by conv => lhs; whnf)) .nil) ?_ | refine QRet.endN (.cons (.tmpE (by conv => lhs; whnf)) .nil) ?_); try (focus first | rfl | (rw [hi1]; rfl; done))) | ((first | refine QRet.same (.cons (.tmpE (by conv => lhs; whnf)) .nil) ?_ ?_ | refine QRet.sameN (.cons (.tmpE (by conv => lhs; whnf)) .nil) ?_ ?_); try (rotate_left; (focus first | rfl | (rw [hi1]; rfl; done)); try (focus first | rfl | (rw [hi1]; rfl; done))))))
      | refine ⟨rfl, (by first | rfl | exact isDec _), (by (repeat' (first | exact WkS.refl _ | refine WkS.upd ?_ Wk.junk)); first | done | fail), rfl⟩
      | fail)

theorem words_ok : Callable Tryz.prog 95 [] [] (Ret (.ful (strs wordsF) 29) []) := by
  refine Callable.of_ex tOk [.tmp 0] Tryz.func95 rfl rfl rfl (Nat.le_of_ble_eq_true rfl) ?_
  repeat' (first
    | (refine Ex.g ?_; first | refine Ex.seq ?_ | refine Ex.region ?_ | refine Ex.skip ?_ | refine Ex.ret ?_ | refine Ex.exit ?_ | (refine Ex.gCond ?_; first | refine Ex.condT rfl ?_ | refine Ex.condF rfl ?_ | refine Ex.condD rfl (fun hc => ?_) (fun hc => ?_) | refine Ex.condN rfl (fun hc => ?_) (fun hc => ?_) | refine Ex.cond rfl (fun hc => ?_) (fun hc => ?_)))
    | refine ExOps.nil ?_
    | (refine ExOps.gPC ?_; first | refine ExOps.opR (OpOk.len tOk rfl rfl rfl) rfl ?_)
    | (refine ExOps.gP ?_; first | (refine ExOps.gBS ?_; refine ExOps.calcE tOk (r := .ful (strs wordsF) 29) rfl rfl (by kernel_rfl) ?_) | (refine ExOps.gB ?_; refine ExOps.calcE tOk rfl rfl (by conv => lhs; simp [pev, upd, PV.cells, argSlots]) ?_) | refine ExOps.calcE tOk rfl rfl (by conv => lhs; whnf) ?_)
    | (refine QSeq.g ?_; first | refine QSeq.norm ?_ | refine QSeq.ret ?_ | refine QSeq.exit ?_)
    | (refine QRet.g ?_; (first | ((first | refine QRet.end_ (.cons (.tmpE (by conv => lhs; whnf)) .nil) ?_ | refine QRet.endN (.cons (.tmpE (by conv => lhs; whnf)) .nil) ?_); try (focus first | rfl | (simp_all [packP]; done))) | ((first | refine QRet.same (.cons (.tmpE (by conv => lhs; whnf)) .nil) ?_ ?_ | refine QRet.sameN (.cons (.tmpE (by conv => lhs; whnf)) .nil) ?_ ?_); try (rotate_left; (focus first | rfl | (simp_all [packP]; done)); try (focus first | rfl | (simp_all [packP]; done))))))
    | fail)

theorem sIndex_ok (l : List ByteArray) (x : ByteArray) (hl : l.length ≤ 4611686018427387904) : Callable Tryz.prog 111 [.slc (strs l) l.length, .str x] [] (Ret (.int .i64 (idxF (fun y => decide (x = y)) l 0)) []) := by
  refine Callable.of_ex tOk [.tmp 4] Tryz.func111 rfl rfl rfl (Nat.le_of_ble_eq_true rfl) ?_
  repeat' (first
    | (refine Ex.g ?_; first | refine Ex.seq ?_ | refine Ex.region ?_ | refine Ex.skip ?_ | refine Ex.ret ?_ | refine Ex.exit ?_ | refine Ex.block ?_ | (refine Ex.gCond ?_; first | refine Ex.condT rfl ?_ | refine Ex.condF rfl ?_ | refine Ex.condD rfl (fun hc => ?_) (fun hc => ?_) | refine Ex.condN rfl (fun hc => ?_) (fun hc => ?_) | refine Ex.cond rfl (fun hc => ?_) (fun hc => ?_)))
    | refine ExOps.nil ?_
    | (refine ExOps.gPC ?_; first | refine ExOps.opR (OpOk.len tOk rfl rfl rfl) rfl ?_)
    | (refine ExOps.gP ?_; first | (refine ExOps.gB ?_; refine ExOps.calcE tOk rfl rfl (by conv => lhs; simp [pev, upd, PV.cells, argSlots]) ?_) | refine ExOps.calcE tOk rfl rfl (by conv => lhs; whnf) ?_)
    | (refine QSeq.g ?_; first | refine QSeq.norm ?_ | refine QSeq.ret ?_ | refine QSeq.exit ?_)
    | (refine QBlock.g ?_; first | refine QBlock.norm ?_ | refine QBlock.ret ?_ | refine QBlock.hit rfl ?_ | refine QBlock.miss rfl ?_)
    | (refine QLoop.g ?_; first | refine QLoop.ret ?_ | refine QLoop.exit ?_)
    | (refine QRet.g ?_; (first | ((first | refine QRet.end_ (.cons (.tmpE (by conv => lhs; whnf)) .nil) ?_ | refine QRet.endN (.cons (.tmpE (by conv => lhs; whnf)) .nil) ?_); try (focus first | rfl | (simp_all [packP]; done))) | ((first | refine QRet.same (.cons (.tmpE (by conv => lhs; whnf)) .nil) ?_ ?_ | refine QRet.sameN (.cons (.tmpE (by conv => lhs; whnf)) .nil) ?_ ?_); try (rotate_left; (focus first | rfl | (simp_all [packP]; done)); try (focus first | rfl | (simp_all [packP]; done))))))
    | fail)
  refine Ex.loop (fun m s σ => ∃ k : Nat, (m + k = l.length) ∧ (idxF (fun y => decide (x = y)) l 0 = idxF (fun y => decide (x = y)) (l.drop k) k) ∧ s 0 = .slc (strs l) l.length ∧ s 1 = .str x ∧ s 7 = .int .i64 l.length ∧ s 8 = .int .i64 k ∧ σ = []) (l.length) ⟨0, (by first | rfl | assumption | omega | exact slot_check rfl | (simp; done) | (simp; omega) | fail), (by first | rfl | assumption | omega | exact slot_check rfl | (simp; done) | (simp; omega) | fail), (by first | rfl | assumption | omega | exact slot_check rfl | (simp; done) | (simp; omega) | fail), (by first | rfl | assumption | omega | exact slot_check rfl | (simp; done) | (simp; omega) | fail), (by first | rfl | assumption | omega | exact slot_check rfl | (simp; done) | (simp; omega) | fail), (by first | rfl | assumption | omega | exact slot_check rfl | (simp; done) | (simp; omega) | fail), rfl⟩ ?_
  rintro m s σ ⟨k, hi0, hi1, h0, h1, h7, h8, rfl⟩
  refine (Ex.have_ (t := 0) h0 (Ex.have_ (t := 1) h1 (Ex.have_ (t := 7) h7 (Ex.have_ (t := 8) h8 ?_))))
  repeat' (first
    | (refine Ex.g ?_; first | refine Ex.seq ?_ | refine Ex.region ?_ | refine Ex.skip ?_ | refine Ex.ret ?_ | refine Ex.exit ?_ | refine Ex.block ?_ | (refine Ex.gCond ?_; first | refine Ex.condT rfl ?_ | refine Ex.condF rfl ?_ | refine Ex.condD rfl (fun hc => ?_) (fun hc => ?_) | refine Ex.condN rfl (fun hc => ?_) (fun hc => ?_) | refine Ex.cond rfl (fun hc => ?_) (fun hc => ?_)))
    | refine ExOps.nil ?_
    | (refine ExOps.gPC ?_; first | refine ExOps.opR (OpOk.len tOk rfl rfl rfl) rfl ?_)
    | (refine ExOps.gP ?_; first | (refine ExOps.gB ?_; refine ExOps.calcE tOk rfl rfl (by conv => lhs; simp [pev, upd, PV.cells, argSlots]) ?_) | refine ExOps.calcE tOk rfl rfl (by conv => lhs; whnf) ?_ | refine ExOps.opR (OpOk.indexStrs tOk rfl rfl rfl rfl rfl rfl rfl (by omega) (by omega) (by omega)) rfl ?_)
    | (refine QSeq.g ?_; first | refine QSeq.norm ?_ | refine QSeq.ret ?_ | refine QSeq.exit ?_)
    | (refine QBlock.g ?_; first | refine QBlock.norm ?_ | refine QBlock.ret ?_ | refine QBlock.hit rfl ?_ | refine QBlock.miss rfl ?_)
    | (refine QLoop.g ?_; first | refine QLoop.ret ?_ | refine QLoop.exit ?_)
    | (refine QRet.g ?_; (first | ((first | refine QRet.end_ (.cons (.tmpE (by conv => lhs; whnf)) .nil) ?_ | refine QRet.endN (.cons (.tmpE (by conv => lhs; whnf)) .nil) ?_); try (focus first | rfl | (rw [hi1, idxF_drop _ _ _ (by omega), if_pos (by simpa using hc)]; rfl; done) | (rw [hi1, List.drop_eq_nil_of_le (by omega)]; rfl; done))) | ((first | refine QRet.same (.cons (.tmpE (by conv => lhs; whnf)) .nil) ?_ ?_ | refine QRet.sameN (.cons (.tmpE (by conv => lhs; whnf)) .nil) ?_ ?_); try (rotate_left; (focus first | rfl | (rw [hi1, idxF_drop _ _ _ (by omega), if_pos (by simpa using hc)]; rfl; done) | (rw [hi1, List.drop_eq_nil_of_le (by omega)]; rfl; done)); try (focus first | rfl | (rw [hi1, idxF_drop _ _ _ (by omega), if_pos (by simpa using hc)]; rfl; done) | (rw [hi1, List.drop_eq_nil_of_le (by omega)]; rfl; done))))))
    | fail)
  · rw [idxF_drop _ _ _ (by omega), if_neg (fun h => ‹¬ x = _› (of_decide_eq_true h))] at hi1
    exact QLoop.next (m - 1) (by omega) ⟨k + 1, (by first | rfl | omega | exact (congrArg (PV.int .i64) (by (try simp only [Int.toNat_natCast]); (try rw [wrap_id (by omega) (by omega)]); (try split) <;> omega)) | assumption | (simp; done) | fail), (by first | rfl | omega | exact (congrArg (PV.int .i64) (by (try simp only [Int.toNat_natCast]); (try rw [wrap_id (by omega) (by omega)]); (try split) <;> omega)) | assumption | (simp; done) | fail), (by first | rfl | omega | exact (congrArg (PV.int .i64) (by (try simp only [Int.toNat_natCast]); (try rw [wrap_id (by omega) (by omega)]); (try split) <;> omega)) | assumption | (simp; done) | fail), (by first | rfl | omega | exact (congrArg (PV.int .i64) (by (try simp only [Int.toNat_natCast]); (try rw [wrap_id (by omega) (by omega)]); (try split) <;> omega)) | assumption | (simp; done) | fail), (by first | rfl | omega | exact (congrArg (PV.int .i64) (by (try simp only [Int.toNat_natCast]); (try rw [wrap_id (by omega) (by omega)]); (try split) <;> omega)) | assumption | (simp; done) | fail), (by first | rfl | omega | exact (congrArg (PV.int .i64) (by (try simp only [Int.toNat_natCast]); (try rw [wrap_id (by omega) (by omega)]); (try split) <;> omega)) | assumption | (simp; done) | fail), rfl⟩
theorem sContains_ok (l : List ByteArray) (x : ByteArray) (hl : l.length ≤ 4611686018427387904) : Callable Tryz.prog 94 [.slc (strs l) l.length, .str x] [] (Ret (.bool (l.any (fun y => decide (x = y)))) []) := by
  refine Callable.of_ex tOk [.tmp 4] Tryz.func94 rfl rfl rfl (Nat.le_of_ble_eq_true rfl) ?_
  repeat' (first
    | (refine Ex.g ?_; first | refine Ex.seq ?_ | refine Ex.region ?_ | refine Ex.skip ?_ | refine Ex.ret ?_ | refine Ex.exit ?_ | (refine Ex.gCond ?_; first | refine Ex.condT rfl ?_ | refine Ex.condF rfl ?_ | refine Ex.condD rfl (fun hc => ?_) (fun hc => ?_) | refine Ex.condN rfl (fun hc => ?_) (fun hc => ?_) | refine Ex.cond rfl (fun hc => ?_) (fun hc => ?_)))
    | refine ExOps.nil ?_
    | (refine ExOps.gPC ?_; first | refine ExOps.opR (OpOk.len tOk rfl rfl rfl) rfl ?_ | refine ExOps.opR (.cp rfl rfl rfl (h := sIndex_ok l x hl)) rfl ?_)
    | (refine ExOps.gP ?_; first | (refine ExOps.gB ?_; refine ExOps.calcE tOk rfl rfl (by conv => lhs; simp [pev, upd, PV.cells, argSlots]) ?_) | refine ExOps.calcE tOk rfl rfl (by conv => lhs; whnf) ?_)
    | (refine QSeq.g ?_; first | refine QSeq.norm ?_ | refine QSeq.ret ?_ | refine QSeq.exit ?_)
    | (refine QRet.g ?_; (first | ((first | refine QRet.end_ (.cons (.tmpE (by conv => lhs; whnf)) .nil) ?_ | refine QRet.endN (.cons (.tmpE (by conv => lhs; whnf)) .nil) ?_); try (focus first | rfl | (refine congrArg PV.bool (idxF_any _ _ _ (by omega)); done))) | ((first | refine QRet.same (.cons (.tmpE (by conv => lhs; whnf)) .nil) ?_ ?_ | refine QRet.sameN (.cons (.tmpE (by conv => lhs; whnf)) .nil) ?_ ?_); try (rotate_left; (focus first | rfl | (refine congrArg PV.bool (idxF_any _ _ _ (by omega)); done)); try (focus first | rfl | (refine congrArg PV.bool (idxF_any _ _ _ (by omega)); done))))))
    | fail)
theorem word_ok (x : ByteArray) : Callable Tryz.prog 64 [.str x] [] (Ret (.bool (wordF x)) []) := by
  refine Callable.of_ex tOk [.tmp 2] Tryz.func64 rfl rfl rfl (Nat.le_of_ble_eq_true rfl) ?_
  repeat' (first
    | (refine Ex.g ?_; first | refine Ex.seq ?_ | refine Ex.region ?_ | refine Ex.skip ?_ | refine Ex.ret ?_ | refine Ex.exit ?_ | (refine Ex.gCond ?_; first | refine Ex.condT rfl ?_ | refine Ex.condF rfl ?_ | refine Ex.condD rfl (fun hc => ?_) (fun hc => ?_) | refine Ex.condN rfl (fun hc => ?_) (fun hc => ?_) | refine Ex.cond rfl (fun hc => ?_) (fun hc => ?_)))
    | refine ExOps.nil ?_
    | (refine ExOps.gPC ?_; first | refine ExOps.opR (OpOk.len tOk rfl rfl rfl) rfl ?_ | refine ExOps.opR (.cp rfl rfl rfl (h := words_ok)) rfl ?_ | refine ExOps.opR (.cp rfl rfl rfl (h := sContains_ok wordsF x (by decide))) rfl ?_)
    | (refine ExOps.gP ?_; first | (refine ExOps.gB ?_; refine ExOps.calcE tOk rfl rfl (by conv => lhs; simp [pev, upd, PV.cells, argSlots]) ?_) | refine ExOps.calcE tOk rfl rfl (by conv => lhs; whnf) ?_)
    | (refine QSeq.g ?_; first | refine QSeq.norm ?_ | refine QSeq.ret ?_ | refine QSeq.exit ?_)
    | (refine QRet.g ?_; (first | ((first | refine QRet.end_ (.cons (.tmpE (by conv => lhs; whnf)) .nil) ?_ | refine QRet.endN (.cons (.tmpE (by conv => lhs; whnf)) .nil) ?_); try (focus first | rfl | (unfold wordF; rfl; done))) | ((first | refine QRet.same (.cons (.tmpE (by conv => lhs; whnf)) .nil) ?_ ?_ | refine QRet.sameN (.cons (.tmpE (by conv => lhs; whnf)) .nil) ?_ ?_); try (rotate_left; (focus first | rfl | (unfold wordF; rfl; done)); try (focus first | rfl | (unfold wordF; rfl; done))))))
    | fail)
theorem check_ok (x : ByteArray) (hs : x.size ≤ 9223372036854775807) : Callable Tryz.prog 35 [.str x] [] (Ret (.bool (checkF x)) []) := by
  refine Callable.of_ex tOk [.tmp 2] Tryz.func35 rfl rfl rfl (Nat.le_of_ble_eq_true rfl) ?_
  repeat' (first
    | (refine Ex.g ?_; first | refine Ex.seq ?_ | refine Ex.region ?_ | refine Ex.skip ?_ | refine Ex.ret ?_ | refine Ex.exit ?_ | (refine Ex.gCond ?_; first | refine Ex.condT rfl ?_ | refine Ex.condF rfl ?_ | refine Ex.condD rfl (fun hc => ?_) (fun hc => ?_) | refine Ex.condN rfl (fun hc => ?_) (fun hc => ?_) | refine Ex.cond rfl (fun hc => ?_) (fun hc => ?_)))
    | refine ExOps.nil ?_
    | (refine ExOps.gPC ?_; first | refine ExOps.opR (OpOk.len tOk rfl rfl rfl) rfl ?_ | refine ExOps.opR (.cp rfl rfl rfl (h := rname_ok x hs)) rfl ?_ | refine ExOps.opR (.cp rfl rfl rfl (h := word_ok x)) rfl ?_)
    | (refine ExOps.gP ?_; first | (refine ExOps.gB ?_; refine ExOps.calcE tOk rfl rfl (by conv => lhs; simp [pev, upd, PV.cells, argSlots]) ?_) | refine ExOps.calcE tOk rfl rfl (by conv => lhs; whnf) ?_)
    | (refine ExOps.gG ?_; first | (refine ExOps.gIn rfl rfl ?_; first | (refine ExOps.gGC ?_; first | refine ExOps.opRG rfl rfl rfl (OpOk.len tOk rfl rfl rfl) rfl ?_ | refine ExOps.opRG rfl rfl rfl (.cp rfl rfl rfl (h := rname_ok x hs)) rfl ?_ | refine ExOps.opRG rfl rfl rfl (.cp rfl rfl rfl (h := word_ok x)) rfl ?_) | (first | refine ExOps.calcGE tOk rfl rfl rfl rfl rfl (by conv => lhs; whnf) ?_)) | refine ExOps.skipGU rfl rfl rfl rfl ?_ | refine ExOps.skipU rfl rfl rfl ?_ | (refine ExOps.gAnd3 ?_; refine' ExOps.and3 tOk rfl rfl rfl rfl rfl rfl rfl (by first | rfl | exact isDec _) (fun hg => ?_) ?_; rotate_left 3) | ((fail_if_success refine ExOps.gIn rfl rfl ?_); first | refine ExOps.guardD rfl rfl rfl (fun hg => ?_) (fun hg => ?_) | refine ExOps.guard rfl rfl rfl (fun hg => ?_) (fun hg => ?_)))
    | (refine QSeq.g ?_; first | refine QSeq.norm ?_ | refine QSeq.ret ?_ | refine QSeq.exit ?_)
    | (refine QRet.g ?_; (first | ((first | refine QRet.end_ (.cons (.tmpE (by conv => lhs; whnf)) .nil) ?_ | refine QRet.endN (.cons (.tmpE (by conv => lhs; whnf)) .nil) ?_); try (focus first | rfl | (rw [checkF]; cases nameF x <;> cases wordF x <;> rfl; done))) | ((first | refine QRet.same (.cons (.tmpE (by conv => lhs; whnf)) .nil) ?_ ?_ | refine QRet.sameN (.cons (.tmpE (by conv => lhs; whnf)) .nil) ?_ ?_); try (rotate_left; (focus first | rfl | (rw [checkF]; cases nameF x <;> cases wordF x <;> rfl; done)); try (focus first | rfl | (rw [checkF]; cases nameF x <;> cases wordF x <;> rfl; done))))))
    | refine ⟨rfl, (by first | rfl | exact isDec _), (by (repeat' (first | exact WkS.refl _ | refine WkS.upd ?_ Wk.junk)); first | done | fail), rfl⟩
    | fail)
theorem sIndexF_ok (l : List ByteArray) (f : Nat) (p : ByteArray → Bool) (hl : l.length ≤ 4611686018427387904) (hp : ∀ y ∈ l, Callable Tryz.prog f [.str y] [] (Ret (.bool (p y)) [])) : Callable Tryz.prog 99 [.slc (strs l) l.length, .func f [] []] [] (Ret (.int .i64 (idxF p l 0)) []) := by
  refine Callable.of_ex tOk [.tmp 4] Tryz.func99 rfl rfl rfl (Nat.le_of_ble_eq_true rfl) ?_
  repeat' (first
    | (refine Ex.g ?_; first | refine Ex.seq ?_ | refine Ex.region ?_ | refine Ex.skip ?_ | refine Ex.ret ?_ | refine Ex.exit ?_ | refine Ex.block ?_ | (refine Ex.gCond ?_; first | refine Ex.condT rfl ?_ | refine Ex.condF rfl ?_ | refine Ex.condD rfl (fun hc => ?_) (fun hc => ?_) | refine Ex.condN rfl (fun hc => ?_) (fun hc => ?_) | refine Ex.cond rfl (fun hc => ?_) (fun hc => ?_)))
    | refine ExOps.nil ?_
    | (refine ExOps.gPC ?_; first | refine ExOps.opR (OpOk.len tOk rfl rfl rfl) rfl ?_)
    | (refine ExOps.gP ?_; first | (refine ExOps.gB ?_; refine ExOps.calcE tOk rfl rfl (by conv => lhs; simp [pev, upd, PV.cells, argSlots]) ?_) | refine ExOps.calcE tOk rfl rfl (by conv => lhs; whnf) ?_)
    | (refine QSeq.g ?_; first | refine QSeq.norm ?_ | refine QSeq.ret ?_ | refine QSeq.exit ?_)
    | (refine QBlock.g ?_; first | refine QBlock.norm ?_ | refine QBlock.ret ?_ | refine QBlock.hit rfl ?_ | refine QBlock.miss rfl ?_)
    | (refine QLoop.g ?_; first | refine QLoop.ret ?_ | refine QLoop.exit ?_)
    | (refine QRet.g ?_; (first | ((first | refine QRet.end_ (.cons (.tmpE (by conv => lhs; whnf)) .nil) ?_ | refine QRet.endN (.cons (.tmpE (by conv => lhs; whnf)) .nil) ?_); try (focus first | rfl | (simp_all [packP]; done))) | ((first | refine QRet.same (.cons (.tmpE (by conv => lhs; whnf)) .nil) ?_ ?_ | refine QRet.sameN (.cons (.tmpE (by conv => lhs; whnf)) .nil) ?_ ?_); try (rotate_left; (focus first | rfl | (simp_all [packP]; done)); try (focus first | rfl | (simp_all [packP]; done))))))
    | fail)
  refine Ex.loop (fun m s σ => ∃ k : Nat, (m + k = l.length) ∧ (idxF p l 0 = idxF p (l.drop k) k) ∧ s 0 = .slc (strs l) l.length ∧ s 1 = .func f [] [] ∧ s 7 = .int .i64 l.length ∧ s 8 = .int .i64 k ∧ σ = []) (l.length) ⟨0, (by first | rfl | assumption | omega | exact slot_check rfl | (simp; done) | (simp; omega) | fail), (by first | rfl | assumption | omega | exact slot_check rfl | (simp; done) | (simp; omega) | fail), (by first | rfl | assumption | omega | exact slot_check rfl | (simp; done) | (simp; omega) | fail), (by first | rfl | assumption | omega | exact slot_check rfl | (simp; done) | (simp; omega) | fail), (by first | rfl | assumption | omega | exact slot_check rfl | (simp; done) | (simp; omega) | fail), (by first | rfl | assumption | omega | exact slot_check rfl | (simp; done) | (simp; omega) | fail), rfl⟩ ?_
  rintro m s σ ⟨k, hi0, hi1, h0, h1, h7, h8, rfl⟩
  refine (Ex.have_ (t := 0) h0 (Ex.have_ (t := 1) h1 (Ex.have_ (t := 7) h7 (Ex.have_ (t := 8) h8 ?_))))
  repeat' (first
    | (refine Ex.g ?_; first | refine Ex.seq ?_ | refine Ex.region ?_ | refine Ex.skip ?_ | refine Ex.ret ?_ | refine Ex.exit ?_ | refine Ex.block ?_ | (refine Ex.gCond ?_; first | refine Ex.condT rfl ?_ | refine Ex.condF rfl ?_ | refine Ex.condD rfl (fun hc => ?_) (fun hc => ?_) | refine Ex.condN rfl (fun hc => ?_) (fun hc => ?_) | refine Ex.cond rfl (fun hc => ?_) (fun hc => ?_)))
    | refine ExOps.nil ?_
    | (refine ExOps.gPC ?_; first | refine ExOps.opR (OpOk.len tOk rfl rfl rfl) rfl ?_ | refine ExOps.opR (.cp rfl rfl rfl (h := hp _ (getB_mem (by omega)))) rfl ?_)
    | (refine ExOps.gP ?_; first | (refine ExOps.gB ?_; refine ExOps.calcE tOk rfl rfl (by conv => lhs; simp [pev, upd, PV.cells, argSlots]) ?_) | refine ExOps.calcE tOk rfl rfl (by conv => lhs; whnf) ?_ | refine ExOps.opR (OpOk.indexStrs tOk rfl rfl rfl rfl rfl rfl rfl (by omega) (by omega) (by omega)) rfl ?_)
    | (refine QSeq.g ?_; first | refine QSeq.norm ?_ | refine QSeq.ret ?_ | refine QSeq.exit ?_)
    | (refine QBlock.g ?_; first | refine QBlock.norm ?_ | refine QBlock.ret ?_ | refine QBlock.hit rfl ?_ | refine QBlock.miss rfl ?_)
    | (refine QLoop.g ?_; first | refine QLoop.ret ?_ | refine QLoop.exit ?_)
    | (refine QRet.g ?_; (first | ((first | refine QRet.end_ (.cons (.tmpE (by conv => lhs; whnf)) .nil) ?_ | refine QRet.endN (.cons (.tmpE (by conv => lhs; whnf)) .nil) ?_); try (focus first | rfl | (rw [hi1, idxF_drop _ _ _ (by omega), if_pos (by simpa using hc)]; rfl; done) | (rw [hi1, List.drop_eq_nil_of_le (by omega)]; rfl; done))) | ((first | refine QRet.same (.cons (.tmpE (by conv => lhs; whnf)) .nil) ?_ ?_ | refine QRet.sameN (.cons (.tmpE (by conv => lhs; whnf)) .nil) ?_ ?_); try (rotate_left; (focus first | rfl | (rw [hi1, idxF_drop _ _ _ (by omega), if_pos (by simpa using hc)]; rfl; done) | (rw [hi1, List.drop_eq_nil_of_le (by omega)]; rfl; done)); try (focus first | rfl | (rw [hi1, idxF_drop _ _ _ (by omega), if_pos (by simpa using hc)]; rfl; done) | (rw [hi1, List.drop_eq_nil_of_le (by omega)]; rfl; done))))))
    | fail)
  · rw [idxF_drop _ _ _ (by omega), if_neg (by simpa using hc)] at hi1
    exact QLoop.next (m - 1) (by omega) ⟨k + 1, (by first | rfl | omega | exact (congrArg (PV.int .i64) (by (try simp only [Int.toNat_natCast]); (try rw [wrap_id (by omega) (by omega)]); (try split) <;> omega)) | assumption | (simp; done) | fail), (by first | rfl | omega | exact (congrArg (PV.int .i64) (by (try simp only [Int.toNat_natCast]); (try rw [wrap_id (by omega) (by omega)]); (try split) <;> omega)) | assumption | (simp; done) | fail), (by first | rfl | omega | exact (congrArg (PV.int .i64) (by (try simp only [Int.toNat_natCast]); (try rw [wrap_id (by omega) (by omega)]); (try split) <;> omega)) | assumption | (simp; done) | fail), (by first | rfl | omega | exact (congrArg (PV.int .i64) (by (try simp only [Int.toNat_natCast]); (try rw [wrap_id (by omega) (by omega)]); (try split) <;> omega)) | assumption | (simp; done) | fail), (by first | rfl | omega | exact (congrArg (PV.int .i64) (by (try simp only [Int.toNat_natCast]); (try rw [wrap_id (by omega) (by omega)]); (try split) <;> omega)) | assumption | (simp; done) | fail), (by first | rfl | omega | exact (congrArg (PV.int .i64) (by (try simp only [Int.toNat_natCast]); (try rw [wrap_id (by omega) (by omega)]); (try split) <;> omega)) | assumption | (simp; done) | fail), rfl⟩
theorem sContainsF_ok (l : List ByteArray) (f : Nat) (p : ByteArray → Bool) (hl : l.length ≤ 4611686018427387904) (hp : ∀ y ∈ l, Callable Tryz.prog f [.str y] [] (Ret (.bool (p y)) [])) : Callable Tryz.prog 68 [.slc (strs l) l.length, .func f [] []] [] (Ret (.bool (l.any p)) []) := by
  refine Callable.of_ex tOk [.tmp 4] Tryz.func68 rfl rfl rfl (Nat.le_of_ble_eq_true rfl) ?_
  repeat' (first
    | (refine Ex.g ?_; first | refine Ex.seq ?_ | refine Ex.region ?_ | refine Ex.skip ?_ | refine Ex.ret ?_ | refine Ex.exit ?_ | (refine Ex.gCond ?_; first | refine Ex.condT rfl ?_ | refine Ex.condF rfl ?_ | refine Ex.condD rfl (fun hc => ?_) (fun hc => ?_) | refine Ex.condN rfl (fun hc => ?_) (fun hc => ?_) | refine Ex.cond rfl (fun hc => ?_) (fun hc => ?_)))
    | refine ExOps.nil ?_
    | (refine ExOps.gPC ?_; first | refine ExOps.opR (OpOk.len tOk rfl rfl rfl) rfl ?_ | refine ExOps.opR (.cp rfl rfl rfl (h := sIndexF_ok l f p hl hp)) rfl ?_)
    | (refine ExOps.gP ?_; first | (refine ExOps.gB ?_; refine ExOps.calcE tOk rfl rfl (by conv => lhs; simp [pev, upd, PV.cells, argSlots]) ?_) | refine ExOps.calcE tOk rfl rfl (by conv => lhs; whnf) ?_)
    | (refine QSeq.g ?_; first | refine QSeq.norm ?_ | refine QSeq.ret ?_ | refine QSeq.exit ?_)
    | (refine QRet.g ?_; (first | ((first | refine QRet.end_ (.cons (.tmpE (by conv => lhs; whnf)) .nil) ?_ | refine QRet.endN (.cons (.tmpE (by conv => lhs; whnf)) .nil) ?_); try (focus first | rfl | (refine congrArg PV.bool (idxF_any _ _ _ (by omega)); done))) | ((first | refine QRet.same (.cons (.tmpE (by conv => lhs; whnf)) .nil) ?_ ?_ | refine QRet.sameN (.cons (.tmpE (by conv => lhs; whnf)) .nil) ?_ ?_); try (rotate_left; (focus first | rfl | (refine congrArg PV.bool (idxF_any _ _ _ (by omega)); done)); try (focus first | rfl | (refine congrArg PV.bool (idxF_any _ _ _ (by omega)); done))))))
    | fail)
theorem bad_ok (x : ByteArray) (hs : x.size ≤ 9223372036854775807) : Callable Tryz.prog 67 [.str x] [] (Ret (.bool (!checkF x)) []) := by
  refine Callable.of_ex tOk [.tmp 2] Tryz.func67 rfl rfl rfl (Nat.le_of_ble_eq_true rfl) ?_
  repeat' (first
    | (refine Ex.g ?_; first | refine Ex.seq ?_ | refine Ex.region ?_ | refine Ex.skip ?_ | refine Ex.ret ?_ | refine Ex.exit ?_ | (refine Ex.gCond ?_; first | refine Ex.condT rfl ?_ | refine Ex.condF rfl ?_ | refine Ex.condD rfl (fun hc => ?_) (fun hc => ?_) | refine Ex.condN rfl (fun hc => ?_) (fun hc => ?_) | refine Ex.cond rfl (fun hc => ?_) (fun hc => ?_)))
    | refine ExOps.nil ?_
    | (refine ExOps.gPC ?_; first | refine ExOps.opR (OpOk.len tOk rfl rfl rfl) rfl ?_ | refine ExOps.opR (.cp rfl rfl rfl (h := check_ok x hs)) rfl ?_)
    | (refine ExOps.gP ?_; first | (refine ExOps.gB ?_; refine ExOps.calcE tOk rfl rfl (by conv => lhs; simp [pev, upd, PV.cells, argSlots]) ?_) | refine ExOps.calcE tOk rfl rfl (by conv => lhs; whnf) ?_)
    | (refine QSeq.g ?_; first | refine QSeq.norm ?_ | refine QSeq.ret ?_ | refine QSeq.exit ?_)
    | (refine QRet.g ?_; (first | ((first | refine QRet.end_ (.cons (.tmpE (by conv => lhs; whnf)) .nil) ?_ | refine QRet.endN (.cons (.tmpE (by conv => lhs; whnf)) .nil) ?_); try (focus first | rfl | (simp_all [packP]; done))) | ((first | refine QRet.same (.cons (.tmpE (by conv => lhs; whnf)) .nil) ?_ ?_ | refine QRet.sameN (.cons (.tmpE (by conv => lhs; whnf)) .nil) ?_ ?_); try (rotate_left; (focus first | rfl | (simp_all [packP]; done)); try (focus first | rfl | (simp_all [packP]; done))))))
    | fail)
theorem long_ok (x : ByteArray) (hs : x.size < 4294967281) : Callable Tryz.prog 37 [.str x] [] (Ret (.bool (longF x)) []) := by
  have hsp := splitF_size x
  refine Callable.of_ex tOk [.tmp 2] Tryz.func37 rfl rfl rfl (Nat.le_of_ble_eq_true rfl) ?_
  repeat' (first
    | (refine Ex.g ?_; first | refine Ex.seq ?_ | refine Ex.region ?_ | refine Ex.skip ?_ | refine Ex.ret ?_ | refine Ex.exit ?_ | (refine Ex.gCond ?_; first | refine Ex.condT rfl ?_ | refine Ex.condF rfl ?_ | refine Ex.condD rfl (fun hc => ?_) (fun hc => ?_) | refine Ex.condN rfl (fun hc => ?_) (fun hc => ?_) | refine Ex.cond rfl (fun hc => ?_) (fun hc => ?_)))
    | refine ExOps.nil ?_
    | (refine ExOps.gPC ?_; first | refine ExOps.opR (OpOk.len tOk rfl rfl rfl) rfl ?_ | refine ExOps.opR (.cp rfl rfl rfl (h := split_ok x dot hs (by decide))) rfl ?_ | refine ExOps.opR (.cp rfl rfl rfl (h := sContainsF_ok (splitF x) _ (fun y => !checkF y) (by omega) (fun y hy => bad_ok y (by have := hsp.2 y hy; omega)))) rfl ?_)
    | (refine ExOps.gP ?_; first | (refine ExOps.gB ?_; refine ExOps.calcE tOk rfl rfl (by conv => lhs; simp [pev, upd, PV.cells, argSlots]) ?_) | refine ExOps.calcE tOk rfl rfl (by conv => lhs; whnf) ?_)
    | (refine ExOps.gG ?_; first | (refine ExOps.gIn rfl rfl ?_; first | (refine ExOps.gGC ?_; first | refine ExOps.opRG rfl rfl rfl (OpOk.len tOk rfl rfl rfl) rfl ?_ | refine ExOps.opRG rfl rfl rfl (.cp rfl rfl rfl (h := split_ok x dot hs (by decide))) rfl ?_ | refine ExOps.opRG rfl rfl rfl (.cp rfl rfl rfl (h := sContainsF_ok (splitF x) _ (fun y => !checkF y) (by omega) (fun y hy => bad_ok y (by have := hsp.2 y hy; omega)))) rfl ?_) | (first | refine ExOps.calcGE tOk rfl rfl rfl rfl rfl (by conv => lhs; whnf) ?_)) | refine ExOps.skipGU rfl rfl rfl rfl ?_ | refine ExOps.skipU rfl rfl rfl ?_ | (refine ExOps.gAnd5 ?_; refine' ExOps.and5 tOk rfl rfl rfl rfl rfl rfl rfl (by first | rfl | exact isDec _) (fun hg => ?_) ?_; rotate_left 3) | ((fail_if_success refine ExOps.gIn rfl rfl ?_); first | refine ExOps.guardD rfl rfl rfl (fun hg => ?_) (fun hg => ?_) | refine ExOps.guard rfl rfl rfl (fun hg => ?_) (fun hg => ?_)))
    | (refine QSeq.g ?_; first | refine QSeq.norm ?_ | refine QSeq.ret ?_ | refine QSeq.exit ?_)
    | (refine QRet.g ?_; (first | ((first | refine QRet.end_ (.cons (.tmpE (by conv => lhs; whnf)) .nil) ?_ | refine QRet.endN (.cons (.tmpE (by conv => lhs; whnf)) .nil) ?_); try (focus first | rfl | (unfold longF; rfl; done))) | ((first | refine QRet.same (.cons (.tmpE (by conv => lhs; whnf)) .nil) ?_ ?_ | refine QRet.sameN (.cons (.tmpE (by conv => lhs; whnf)) .nil) ?_ ?_); try (rotate_left; (focus first | rfl | (unfold longF; rfl; done)); try (focus first | rfl | (unfold longF; rfl; done))))))
    | refine ⟨rfl, (by first | rfl | exact isDec _), (by (repeat' (first | exact WkS.refl _ | refine WkS.upd ?_ Wk.junk)); first | done | fail), rfl⟩
    | fail)
end Go.Proofs.YtceoldiblphahaaGreatDoor
