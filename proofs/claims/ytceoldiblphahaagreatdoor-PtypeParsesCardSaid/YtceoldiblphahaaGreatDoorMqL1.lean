/- Contracts of package lexer's small functions. -/
import Derived.Test.YtceoldiblphahaaGreatDoorMqN1
import Derived.Test.YtceoldiblphahaaGreatDoorMqX
set_option linter.unusedVariables false
set_option linter.unusedSimpArgs false
set_option linter.unusedSectionVars false
namespace Go.Proofs.YtceoldiblphahaaGreatDoor
open Go.Mq
attribute [local irreducible] Ex ExOps QSeq QBlock QLoop QRet OpOk Callable DEx DRd Melt Wk Tree.pv pvs toks opv strs

attribute [local irreducible] classF nameF wordF checkF Utf8.decode bat spanL spanF innerF blankF digitF prefF commentL commentF byteAt longL longT partF firstF signL tokenF badRune runesL runesF lexL lexF
set_option maxHeartbeats 4000000

theorem batL_byteAt (s : ByteArray) (i : Nat) : bat s i = byteAt s i := by unfold bat byteAt; rfl
theorem span_ok (s0 : ByteArray) (f : Nat) (p : Int → Bool) (hs : s0.size ≤ 4611686018427387904) (hp : ∀ r, Callable Tryz.prog f [.int .i32 r] [] (Ret (.bool (p r)) [])) : Callable Tryz.prog 48 [.str s0, .func f [] []] [] (Ret (.int .i64 (spanF p s0)) []) := by
  have h0 : spanF p s0 = spanL p s0.size s0 0 := by unfold spanF; rfl
  rw [h0]
  refine Callable.of_ex tOk [.tmp 4] Tryz.func48 rfl rfl rfl (Nat.le_of_ble_eq_true rfl) ?_
  repeat' (first
    | (refine Ex.g ?_; first | refine Ex.seq ?_ | refine Ex.region ?_ | refine Ex.skip ?_ | refine Ex.ret ?_ | refine Ex.exit ?_ | refine Ex.block ?_ | (refine Ex.gCond ?_; first | refine Ex.condT rfl ?_ | refine Ex.condF rfl ?_ | refine Ex.condD rfl (fun hc => ?_) (fun hc => ?_) | refine Ex.condN rfl (fun hc => ?_) (fun hc => ?_) | refine Ex.cond rfl (fun hc => ?_) (fun hc => ?_)))
    | refine ExOps.nil ?_
    | (refine ExOps.gPC ?_; first | refine ExOps.opR (OpOk.len tOk rfl rfl rfl) rfl ?_)
    | (refine ExOps.gP ?_; first | (refine ExOps.gB ?_; refine ExOps.calcE tOk rfl rfl (by conv => lhs; simp [pev, upd, PV.cells, argSlots]) ?_) | refine ExOps.calcE tOk rfl rfl (by conv => lhs; whnf) ?_ | (refine ExOps.op (OpOk.rangeStr tOk rfl rfl rfl rfl) rfl ?_; rintro _ _ ⟨b, rfl, rfl⟩))
    | (refine QSeq.g ?_; first | refine QSeq.norm ?_ | refine QSeq.ret ?_ | refine QSeq.exit ?_)
    | (refine QBlock.g ?_; first | refine QBlock.norm ?_ | refine QBlock.ret ?_ | refine QBlock.hit rfl ?_ | refine QBlock.miss rfl ?_)
    | (refine QLoop.g ?_; first | refine QLoop.ret ?_ | refine QLoop.exit ?_)
    | (refine QRet.g ?_; (first | ((first | refine QRet.end_ (.cons (.tmpE (by conv => lhs; whnf)) .nil) ?_ | refine QRet.endN (.cons (.tmpE (by conv => lhs; whnf)) .nil) ?_); try (focus first | rfl | (simp_all [packP]; done))) | ((first | refine QRet.same (.cons (.tmpE (by conv => lhs; whnf)) .nil) ?_ ?_ | refine QRet.sameN (.cons (.tmpE (by conv => lhs; whnf)) .nil) ?_ ?_); try (rotate_left; (focus first | rfl | (simp_all [packP]; done)); try (focus first | rfl | (simp_all [packP]; done))))))
    | fail)
  refine Ex.loop (fun m s σ => ∃ pos : Nat, (s0.size ≤ pos + m) ∧ (spanL p s0.size s0 0 = spanL p m s0 pos) ∧ s 0 = .str s0 ∧ s 1 = .func f [] [] ∧ s 8 = .loc b 0 ∧ σ = [.iter b s0 pos]) (s0.size) ⟨0, (by first | rfl | assumption | omega | exact slot_check rfl | (simp; done) | (simp; omega) | fail), (by first | rfl | assumption | omega | exact slot_check rfl | (simp; done) | (simp; omega) | fail), (by first | rfl | assumption | omega | exact slot_check rfl | (simp; done) | (simp; omega) | fail), (by first | rfl | assumption | omega | exact slot_check rfl | (simp; done) | (simp; omega) | fail), (by first | rfl | assumption | omega | exact slot_check rfl | (simp; done) | (simp; omega) | fail), rfl⟩ ?_
  rintro m s σ ⟨pos, hi0, hi1, h0, h1, h8, rfl⟩
  refine (Ex.have_ (t := 0) h0 (Ex.have_ (t := 1) h1 (Ex.have_ (t := 8) h8 ?_)))
  by_cases hpos : pos < s0.size
  · have hw := Lib.decode_width_pos s0 pos hpos
    obtain ⟨m, rfl⟩ : ∃ k, m = k + 1 := ⟨m - 1, by omega⟩
    rw [spanL_in hpos] at hi1
    by_cases hc : p (Utf8.decode s0 pos).1 = true
    · have hcall := hp (Utf8.decode s0 pos).1
      rw [hc] at hcall
      rw [if_pos hc] at hi1
      repeat' (first
        | (refine Ex.g ?_; first | refine Ex.seq ?_ | refine Ex.region ?_ | refine Ex.skip ?_ | refine Ex.ret ?_ | refine Ex.exit ?_ | refine Ex.block ?_ | (refine Ex.gCond ?_; first | refine Ex.condT rfl ?_ | refine Ex.condF rfl ?_ | refine Ex.condD rfl (fun hc => ?_) (fun hc => ?_) | refine Ex.condN rfl (fun hc => ?_) (fun hc => ?_) | refine Ex.cond rfl (fun hc => ?_) (fun hc => ?_)))
        | refine ExOps.nil ?_
        | (refine ExOps.gPC ?_; first | refine ExOps.opR (OpOk.len tOk rfl rfl rfl) rfl ?_ | refine ExOps.opR (.cp rfl rfl rfl (h := hcall)) rfl ?_)
        | (refine ExOps.gP ?_; first | (refine ExOps.gB ?_; refine ExOps.calcE tOk rfl rfl (by conv => lhs; simp [pev, upd, PV.cells, argSlots]) ?_) | refine ExOps.calcE tOk rfl rfl (by conv => lhs; whnf) ?_ | refine ExOps.opR (OpOk.nextIn rfl rfl [] rfl hpos) rfl ?_)
        | (refine QSeq.g ?_; first | refine QSeq.norm ?_ | refine QSeq.ret ?_ | refine QSeq.exit ?_)
        | (refine QBlock.g ?_; first | refine QBlock.norm ?_ | refine QBlock.ret ?_ | refine QBlock.hit rfl ?_ | refine QBlock.miss rfl ?_)
        | (refine QLoop.g ?_; first | refine QLoop.ret ?_ | refine QLoop.exit ?_)
        | (refine QRet.g ?_; (first | ((first | refine QRet.end_ (.cons (.tmpE (by conv => lhs; whnf)) .nil) ?_ | refine QRet.endN (.cons (.tmpE (by conv => lhs; whnf)) .nil) ?_); try (focus first | rfl | (simp_all [packP]; done))) | ((first | refine QRet.same (.cons (.tmpE (by conv => lhs; whnf)) .nil) ?_ ?_ | refine QRet.sameN (.cons (.tmpE (by conv => lhs; whnf)) .nil) ?_ ?_); try (rotate_left; (focus first | rfl | (simp_all [packP]; done)); try (focus first | rfl | (simp_all [packP]; done))))))
        | fail)
      exact QLoop.next (m) (by omega) ⟨pos + (Utf8.decode s0 pos).2, (by first | rfl | omega | exact (congrArg (PV.int .i64) (by (try simp only [Int.toNat_natCast]); (try rw [wrap_id (by omega) (by omega)]); (try split) <;> omega)) | assumption | (simp; done) | fail), (by first | rfl | omega | exact (congrArg (PV.int .i64) (by (try simp only [Int.toNat_natCast]); (try rw [wrap_id (by omega) (by omega)]); (try split) <;> omega)) | assumption | (simp; done) | fail), (by first | rfl | omega | exact (congrArg (PV.int .i64) (by (try simp only [Int.toNat_natCast]); (try rw [wrap_id (by omega) (by omega)]); (try split) <;> omega)) | assumption | (simp; done) | fail), (by first | rfl | omega | exact (congrArg (PV.int .i64) (by (try simp only [Int.toNat_natCast]); (try rw [wrap_id (by omega) (by omega)]); (try split) <;> omega)) | assumption | (simp; done) | fail), (by first | rfl | omega | exact (congrArg (PV.int .i64) (by (try simp only [Int.toNat_natCast]); (try rw [wrap_id (by omega) (by omega)]); (try split) <;> omega)) | assumption | (simp; done) | fail), rfl⟩
    · have hcall := hp (Utf8.decode s0 pos).1
      rw [Bool.eq_false_iff.2 hc] at hcall
      rw [if_neg hc] at hi1
      rw [hi1]
      repeat' (first
        | (refine Ex.g ?_; first | refine Ex.seq ?_ | refine Ex.region ?_ | refine Ex.skip ?_ | refine Ex.ret ?_ | refine Ex.exit ?_ | refine Ex.block ?_ | (refine Ex.gCond ?_; first | refine Ex.condT rfl ?_ | refine Ex.condF rfl ?_ | refine Ex.condD rfl (fun hc => ?_) (fun hc => ?_) | refine Ex.condN rfl (fun hc => ?_) (fun hc => ?_) | refine Ex.cond rfl (fun hc => ?_) (fun hc => ?_)))
        | refine ExOps.nil ?_
        | (refine ExOps.gPC ?_; first | refine ExOps.opR (OpOk.len tOk rfl rfl rfl) rfl ?_ | refine ExOps.opR (.cp rfl rfl rfl (h := hcall)) rfl ?_)
        | (refine ExOps.gP ?_; first | (refine ExOps.gB ?_; refine ExOps.calcE tOk rfl rfl (by conv => lhs; simp [pev, upd, PV.cells, argSlots]) ?_) | refine ExOps.calcE tOk rfl rfl (by conv => lhs; whnf) ?_ | refine ExOps.opR (OpOk.nextIn rfl rfl [] rfl hpos) rfl ?_)
        | (refine QSeq.g ?_; first | refine QSeq.norm ?_ | refine QSeq.ret ?_ | refine QSeq.exit ?_)
        | (refine QBlock.g ?_; first | refine QBlock.norm ?_ | refine QBlock.ret ?_ | refine QBlock.hit rfl ?_ | refine QBlock.miss rfl ?_)
        | (refine QLoop.g ?_; first | refine QLoop.ret ?_ | refine QLoop.exit ?_)
        | (refine QRet.g ?_; (first | ((first | refine QRet.end_ (.cons (.tmpE (by conv => lhs; whnf)) .nil) ?_ | refine QRet.endN (.cons (.tmpE (by conv => lhs; whnf)) .nil) ?_); try (focus first | rfl | (rfl; done))) | ((first | refine QRet.same (.cons (.tmpE (by conv => lhs; whnf)) .nil) ?_ ?_ | refine QRet.sameN (.cons (.tmpE (by conv => lhs; whnf)) .nil) ?_ ?_); try (rotate_left; (focus first | rfl | (rfl; done)); try (focus first | rfl | (rfl; done))))))
        | fail)
  · rw [spanL_out hpos] at hi1
    rw [hi1]
    repeat' (first
      | (refine Ex.g ?_; first | refine Ex.seq ?_ | refine Ex.region ?_ | refine Ex.skip ?_ | refine Ex.ret ?_ | refine Ex.exit ?_ | refine Ex.block ?_ | (refine Ex.gCond ?_; first | refine Ex.condT rfl ?_ | refine Ex.condF rfl ?_ | refine Ex.condD rfl (fun hc => ?_) (fun hc => ?_) | refine Ex.condN rfl (fun hc => ?_) (fun hc => ?_) | refine Ex.cond rfl (fun hc => ?_) (fun hc => ?_)))
      | refine ExOps.nil ?_
      | (refine ExOps.gPC ?_; first | refine ExOps.opR (OpOk.len tOk rfl rfl rfl) rfl ?_)
      | (refine ExOps.gP ?_; first | (refine ExOps.gB ?_; refine ExOps.calcE tOk rfl rfl (by conv => lhs; simp [pev, upd, PV.cells, argSlots]) ?_) | refine ExOps.calcE tOk rfl rfl (by conv => lhs; whnf) ?_ | refine ExOps.opR (OpOk.nextEnd rfl rfl [] rfl hpos) rfl ?_)
      | (refine QSeq.g ?_; first | refine QSeq.norm ?_ | refine QSeq.ret ?_ | refine QSeq.exit ?_)
      | (refine QBlock.g ?_; first | refine QBlock.norm ?_ | refine QBlock.ret ?_ | refine QBlock.hit rfl ?_ | refine QBlock.miss rfl ?_)
      | (refine QLoop.g ?_; first | refine QLoop.ret ?_ | refine QLoop.exit ?_)
      | (refine QRet.g ?_; (first | ((first | refine QRet.end_ (.cons (.tmpE (by conv => lhs; whnf)) .nil) ?_ | refine QRet.endN (.cons (.tmpE (by conv => lhs; whnf)) .nil) ?_); try (focus first | rfl | (rfl; done))) | ((first | refine QRet.same (.cons (.tmpE (by conv => lhs; whnf)) .nil) ?_ ?_ | refine QRet.sameN (.cons (.tmpE (by conv => lhs; whnf)) .nil) ?_ ?_); try (rotate_left; (focus first | rfl | (rfl; done)); try (focus first | rfl | (rfl; done))))))
      | fail)
theorem inner_ok (r : Int) : Callable Tryz.prog 107 [.int .i32 r] [] (Ret (.bool (innerF r)) []) := by
  have hc := class_ok r
  refine Callable.of_ex tOk [.tmp 2] Tryz.func107 rfl rfl rfl (Nat.le_of_ble_eq_true rfl) ?_
  repeat' (first
    | (refine Ex.g ?_; first | refine Ex.seq ?_ | refine Ex.region ?_ | refine Ex.skip ?_ | refine Ex.ret ?_ | refine Ex.exit ?_ | (refine Ex.gCond ?_; first | refine Ex.condT rfl ?_ | refine Ex.condF rfl ?_ | refine Ex.condD rfl (fun hc => ?_) (fun hc => ?_) | refine Ex.condN rfl (fun hc => ?_) (fun hc => ?_) | refine Ex.cond rfl (fun hc => ?_) (fun hc => ?_)))
    | refine ExOps.nil ?_
    | (refine ExOps.gPC ?_; first | refine ExOps.opR (OpOk.len tOk rfl rfl rfl) rfl ?_ | refine ExOps.opR (.cp rfl rfl rfl (h := hc)) rfl ?_)
    | (refine ExOps.gP ?_; first | (refine ExOps.gB ?_; refine ExOps.calcE tOk rfl rfl (by conv => lhs; simp [pev, upd, PV.cells, argSlots]) ?_) | refine ExOps.calcE tOk rfl rfl (by conv => lhs; whnf) ?_)
    | (refine ExOps.gG ?_; first | (refine ExOps.gIn rfl rfl ?_; first | refine ExOps.calcGE tOk rfl rfl rfl rfl rfl (by conv => lhs; whnf) ?_) | refine ExOps.skipGU rfl rfl rfl rfl ?_ | refine ExOps.skipU rfl rfl rfl ?_ | (refine ExOps.gOr2 ?_; refine' ExOps.or2 tOk rfl rfl rfl rfl rfl rfl rfl (by first | rfl | exact isDec _) (fun hg => ?_) ?_; rotate_left 3) | ((fail_if_success refine ExOps.gIn rfl rfl ?_); first | refine ExOps.guardD rfl rfl rfl (fun hg => ?_) (fun hg => ?_) | refine ExOps.guard rfl rfl rfl (fun hg => ?_) (fun hg => ?_)))
    | (refine QSeq.g ?_; first | refine QSeq.norm ?_ | refine QSeq.ret ?_ | refine QSeq.exit ?_)
    | (refine QRet.g ?_; (first | ((first | refine QRet.end_ (.cons (.tmpE (by conv => lhs; whnf)) .nil) ?_ | refine QRet.endN (.cons (.tmpE (by conv => lhs; whnf)) .nil) ?_); try (focus first | rfl | ((refine congrArg PV.bool ?_; unfold innerF; (repeat' split) <;> simp_all); done))) | ((first | refine QRet.same (.cons (.tmpE (by conv => lhs; whnf)) .nil) ?_ ?_ | refine QRet.sameN (.cons (.tmpE (by conv => lhs; whnf)) .nil) ?_ ?_); try (rotate_left; (focus first | rfl | ((refine congrArg PV.bool ?_; unfold innerF; (repeat' split) <;> simp_all); done)); try (focus first | rfl | ((refine congrArg PV.bool ?_; unfold innerF; (repeat' split) <;> simp_all); done))))))
    | refine ⟨rfl, (by first | rfl | exact isDec _), (by (repeat' (first | exact WkS.refl _ | refine WkS.upd ?_ Wk.junk)); first | done | fail), rfl⟩
    | fail)
theorem blank_ok (r : Int) : Callable Tryz.prog 49 [.int .i32 r] [] (Ret (.bool (blankF r)) []) := by
  refine Callable.of_ex tOk [.tmp 2] Tryz.func49 rfl rfl rfl (Nat.le_of_ble_eq_true rfl) ?_
  repeat' (first
    | (refine Ex.g ?_; first | refine Ex.seq ?_ | refine Ex.region ?_ | refine Ex.skip ?_ | refine Ex.ret ?_ | refine Ex.exit ?_ | (refine Ex.gCond ?_; first | refine Ex.condT rfl ?_ | refine Ex.condF rfl ?_ | refine Ex.condD rfl (fun hc => ?_) (fun hc => ?_) | refine Ex.condN rfl (fun hc => ?_) (fun hc => ?_) | refine Ex.cond rfl (fun hc => ?_) (fun hc => ?_)))
    | refine ExOps.nil ?_
    | (refine ExOps.gPC ?_; first | refine ExOps.opR (OpOk.len tOk rfl rfl rfl) rfl ?_ | refine ExOps.opR (.cp rfl rfl rfl (h := class_ok r)) rfl ?_)
    | (refine ExOps.gP ?_; first | (refine ExOps.gB ?_; refine ExOps.calcE tOk rfl rfl (by conv => lhs; simp [pev, upd, PV.cells, argSlots]) ?_) | refine ExOps.calcE tOk rfl rfl (by conv => lhs; whnf) ?_)
    | (refine QSeq.g ?_; first | refine QSeq.norm ?_ | refine QSeq.ret ?_ | refine QSeq.exit ?_)
    | (refine QRet.g ?_; (first | ((first | refine QRet.end_ (.cons (.tmpE (by conv => lhs; whnf)) .nil) ?_ | refine QRet.endN (.cons (.tmpE (by conv => lhs; whnf)) .nil) ?_); try (focus first | rfl | (unfold blankF; rfl; done))) | ((first | refine QRet.same (.cons (.tmpE (by conv => lhs; whnf)) .nil) ?_ ?_ | refine QRet.sameN (.cons (.tmpE (by conv => lhs; whnf)) .nil) ?_ ?_); try (rotate_left; (focus first | rfl | (unfold blankF; rfl; done)); try (focus first | rfl | (unfold blankF; rfl; done))))))
    | fail)
theorem hasPrefix_ok (s x : ByteArray) : Callable Tryz.prog 86 [.str s, .str x] [] (Ret (.bool (prefF s x)) []) := by
  refine Callable.of_ex tOk [.tmp 4] Tryz.func86 rfl rfl rfl (Nat.le_of_ble_eq_true rfl) ?_
  repeat' (first
    | (refine Ex.g ?_; first | refine Ex.seq ?_ | refine Ex.region ?_ | refine Ex.skip ?_ | refine Ex.ret ?_ | refine Ex.exit ?_ | (refine Ex.gCond ?_; first | refine Ex.condT rfl ?_ | refine Ex.condF rfl ?_ | refine Ex.condD rfl (fun hc => ?_) (fun hc => ?_) | refine Ex.condN rfl (fun hc => ?_) (fun hc => ?_) | refine Ex.cond rfl (fun hc => ?_) (fun hc => ?_)))
    | refine ExOps.nil ?_
    | (refine ExOps.gPC ?_; first | refine ExOps.opR (OpOk.len tOk rfl rfl rfl) rfl ?_)
    | (refine ExOps.gP ?_; first | (refine ExOps.gB ?_; refine ExOps.calcE tOk rfl rfl (by conv => lhs; simp [pev, upd, PV.cells, argSlots]) ?_) | refine ExOps.calcE tOk rfl rfl (by conv => lhs; whnf) ?_ | refine ExOps.opR (OpOk.sliceSH tOk rfl rfl rfl rfl rfl (by omega)) rfl ?_)
    | (refine ExOps.gG ?_; first | (refine ExOps.gIn rfl rfl ?_; first | (refine ExOps.gGC ?_; first | refine ExOps.opRG rfl rfl rfl (OpOk.len tOk rfl rfl rfl) rfl ?_) | (first | refine ExOps.calcGE tOk rfl rfl rfl rfl rfl (by conv => lhs; whnf) ?_ | refine ExOps.opRG rfl rfl rfl (OpOk.sliceSH tOk rfl rfl rfl rfl rfl (by omega)) rfl ?_)) | refine ExOps.skipGU rfl rfl rfl rfl ?_ | refine ExOps.skipU rfl rfl rfl ?_ | (refine ExOps.gAnd6 ?_; refine' ExOps.and6 tOk rfl rfl rfl rfl rfl rfl rfl (by first | rfl | exact isDec _) (fun hg => ?_) ?_; rotate_left 3) | ((fail_if_success refine ExOps.gIn rfl rfl ?_); first | refine ExOps.guardD rfl rfl rfl (fun hg => ?_) (fun hg => ?_) | refine ExOps.guard rfl rfl rfl (fun hg => ?_) (fun hg => ?_)))
    | (refine QSeq.g ?_; first | refine QSeq.norm ?_ | refine QSeq.ret ?_ | refine QSeq.exit ?_)
    | (refine QRet.g ?_; (first | ((first | refine QRet.end_ (.cons (.tmpE (by conv => lhs; whnf)) .nil) ?_ | refine QRet.endN (.cons (.tmpE (by conv => lhs; whnf)) .nil) ?_); try (focus first | rfl | (unfold prefF; exact congrArg PV.bool (decide_eq_decide.2 ⟨fun h => ⟨by omega, h.2⟩, fun h => ⟨by omega, h.2⟩⟩); done))) | ((first | refine QRet.same (.cons (.tmpE (by conv => lhs; whnf)) .nil) ?_ ?_ | refine QRet.sameN (.cons (.tmpE (by conv => lhs; whnf)) .nil) ?_ ?_); try (rotate_left; (focus first | rfl | (unfold prefF; exact congrArg PV.bool (decide_eq_decide.2 ⟨fun h => ⟨by omega, h.2⟩, fun h => ⟨by omega, h.2⟩⟩); done)); try (focus first | rfl | (unfold prefF; exact congrArg PV.bool (decide_eq_decide.2 ⟨fun h => ⟨by omega, h.2⟩, fun h => ⟨by omega, h.2⟩⟩); done))))))
    | refine ⟨rfl, (by first | rfl | exact isDec _), (by (repeat' (first | exact WkS.refl _ | refine WkS.upd ?_ Wk.junk)); first | done | fail), rfl⟩
    | fail)
theorem sprefix_ok (s x : ByteArray) : Callable Tryz.prog 51 [.str s, .str x] [] (Ret (.bool (prefF s x)) []) := by
  refine Callable.of_ex tOk [.tmp 4] Tryz.func51 rfl rfl rfl (Nat.le_of_ble_eq_true rfl) ?_
  repeat' (first
    | (refine Ex.g ?_; first | refine Ex.seq ?_ | refine Ex.region ?_ | refine Ex.skip ?_ | refine Ex.ret ?_ | refine Ex.exit ?_ | (refine Ex.gCond ?_; first | refine Ex.condT rfl ?_ | refine Ex.condF rfl ?_ | refine Ex.condD rfl (fun hc => ?_) (fun hc => ?_) | refine Ex.condN rfl (fun hc => ?_) (fun hc => ?_) | refine Ex.cond rfl (fun hc => ?_) (fun hc => ?_)))
    | refine ExOps.nil ?_
    | (refine ExOps.gPC ?_; first | refine ExOps.opR (OpOk.len tOk rfl rfl rfl) rfl ?_ | refine ExOps.opR (.cp rfl rfl rfl (h := hasPrefix_ok s x)) rfl ?_)
    | (refine ExOps.gP ?_; first | (refine ExOps.gB ?_; refine ExOps.calcE tOk rfl rfl (by conv => lhs; simp [pev, upd, PV.cells, argSlots]) ?_) | refine ExOps.calcE tOk rfl rfl (by conv => lhs; whnf) ?_)
    | (refine QSeq.g ?_; first | refine QSeq.norm ?_ | refine QSeq.ret ?_ | refine QSeq.exit ?_)
    | (refine QRet.g ?_; (first | ((first | refine QRet.end_ (.cons (.tmpE (by conv => lhs; whnf)) .nil) ?_ | refine QRet.endN (.cons (.tmpE (by conv => lhs; whnf)) .nil) ?_); try (focus first | rfl | (simp_all [packP]; done))) | ((first | refine QRet.same (.cons (.tmpE (by conv => lhs; whnf)) .nil) ?_ ?_ | refine QRet.sameN (.cons (.tmpE (by conv => lhs; whnf)) .nil) ?_ ?_); try (rotate_left; (focus first | rfl | (simp_all [packP]; done)); try (focus first | rfl | (simp_all [packP]; done))))))
    | fail)
theorem first_ok (s0 : ByteArray) : Callable Tryz.prog 87 [.str s0] [] (Ret (.int .i32 (firstF s0)) []) := by
  refine Callable.of_ex tOk [.tmp 2] Tryz.func87 rfl rfl rfl (Nat.le_of_ble_eq_true rfl) ?_
  repeat' (first
    | (refine Ex.g ?_; first | refine Ex.seq ?_ | refine Ex.region ?_ | refine Ex.skip ?_ | refine Ex.ret ?_ | refine Ex.exit ?_ | refine Ex.block ?_ | (refine Ex.gCond ?_; first | refine Ex.condT rfl ?_ | refine Ex.condF rfl ?_ | refine Ex.condD rfl (fun hc => ?_) (fun hc => ?_) | refine Ex.condN rfl (fun hc => ?_) (fun hc => ?_) | refine Ex.cond rfl (fun hc => ?_) (fun hc => ?_)))
    | refine ExOps.nil ?_
    | (refine ExOps.gPC ?_; first | refine ExOps.opR (OpOk.len tOk rfl rfl rfl) rfl ?_)
    | (refine ExOps.gP ?_; first | (refine ExOps.gB ?_; refine ExOps.calcE tOk rfl rfl (by conv => lhs; simp [pev, upd, PV.cells, argSlots]) ?_) | refine ExOps.calcE tOk rfl rfl (by conv => lhs; whnf) ?_ | (refine ExOps.op (OpOk.rangeStr tOk rfl rfl rfl rfl) rfl ?_; rintro _ _ ⟨b, rfl, rfl⟩))
    | (refine QSeq.g ?_; first | refine QSeq.norm ?_ | refine QSeq.ret ?_ | refine QSeq.exit ?_)
    | (refine QBlock.g ?_; first | refine QBlock.norm ?_ | refine QBlock.ret ?_ | refine QBlock.hit rfl ?_ | refine QBlock.miss rfl ?_)
    | (refine QLoop.g ?_; first | refine QLoop.ret ?_ | refine QLoop.exit ?_)
    | (refine QRet.g ?_; (first | ((first | refine QRet.end_ (.cons (.tmpE (by conv => lhs; whnf)) .nil) ?_ | refine QRet.endN (.cons (.tmpE (by conv => lhs; whnf)) .nil) ?_); try (focus first | rfl | (simp_all [packP]; done))) | ((first | refine QRet.same (.cons (.tmpE (by conv => lhs; whnf)) .nil) ?_ ?_ | refine QRet.sameN (.cons (.tmpE (by conv => lhs; whnf)) .nil) ?_ ?_); try (rotate_left; (focus first | rfl | (simp_all [packP]; done)); try (focus first | rfl | (simp_all [packP]; done))))))
    | fail)
  refine Ex.loop (fun m s σ => s 6 = .loc b 0 ∧ σ = [.iter b s0 0]) (0) ⟨(by first | rfl | assumption | omega | exact slot_check rfl | (simp; done) | (simp; omega) | fail), rfl⟩ ?_
  rintro m s σ ⟨h6, rfl⟩
  refine (Ex.have_ (t := 6) h6 ?_)
  by_cases hp : 0 < s0.size
  · have e : firstF s0 = (Utf8.decode s0 0).1 := by unfold firstF; rw [if_pos hp]
    rw [e]
    repeat' (first
      | (refine Ex.g ?_; first | refine Ex.seq ?_ | refine Ex.region ?_ | refine Ex.skip ?_ | refine Ex.ret ?_ | refine Ex.exit ?_ | refine Ex.block ?_ | (refine Ex.gCond ?_; first | refine Ex.condT rfl ?_ | refine Ex.condF rfl ?_ | refine Ex.condD rfl (fun hc => ?_) (fun hc => ?_) | refine Ex.condN rfl (fun hc => ?_) (fun hc => ?_) | refine Ex.cond rfl (fun hc => ?_) (fun hc => ?_)))
      | refine ExOps.nil ?_
      | (refine ExOps.gPC ?_; first | refine ExOps.opR (OpOk.len tOk rfl rfl rfl) rfl ?_)
      | (refine ExOps.gP ?_; first | (refine ExOps.gB ?_; refine ExOps.calcE tOk rfl rfl (by conv => lhs; simp [pev, upd, PV.cells, argSlots]) ?_) | refine ExOps.calcE tOk rfl rfl (by conv => lhs; whnf) ?_ | refine ExOps.opR (OpOk.nextIn rfl rfl [] rfl hp) rfl ?_)
      | (refine QSeq.g ?_; first | refine QSeq.norm ?_ | refine QSeq.ret ?_ | refine QSeq.exit ?_)
      | (refine QBlock.g ?_; first | refine QBlock.norm ?_ | refine QBlock.ret ?_ | refine QBlock.hit rfl ?_ | refine QBlock.miss rfl ?_)
      | (refine QLoop.g ?_; first | refine QLoop.ret ?_ | refine QLoop.exit ?_)
      | (refine QRet.g ?_; (first | ((first | refine QRet.end_ (.cons (.tmpE (by conv => lhs; whnf)) .nil) ?_ | refine QRet.endN (.cons (.tmpE (by conv => lhs; whnf)) .nil) ?_); try (focus first | rfl | (rfl; done))) | ((first | refine QRet.same (.cons (.tmpE (by conv => lhs; whnf)) .nil) ?_ ?_ | refine QRet.sameN (.cons (.tmpE (by conv => lhs; whnf)) .nil) ?_ ?_); try (rotate_left; (focus first | rfl | (rfl; done)); try (focus first | rfl | (rfl; done))))))
      | fail)
  · have e : firstF s0 = 0 := by unfold firstF; rw [if_neg hp]
    rw [e]
    repeat' (first
      | (refine Ex.g ?_; first | refine Ex.seq ?_ | refine Ex.region ?_ | refine Ex.skip ?_ | refine Ex.ret ?_ | refine Ex.exit ?_ | refine Ex.block ?_ | (refine Ex.gCond ?_; first | refine Ex.condT rfl ?_ | refine Ex.condF rfl ?_ | refine Ex.condD rfl (fun hc => ?_) (fun hc => ?_) | refine Ex.condN rfl (fun hc => ?_) (fun hc => ?_) | refine Ex.cond rfl (fun hc => ?_) (fun hc => ?_)))
      | refine ExOps.nil ?_
      | (refine ExOps.gPC ?_; first | refine ExOps.opR (OpOk.len tOk rfl rfl rfl) rfl ?_)
      | (refine ExOps.gP ?_; first | (refine ExOps.gB ?_; refine ExOps.calcE tOk rfl rfl (by conv => lhs; simp [pev, upd, PV.cells, argSlots]) ?_) | refine ExOps.calcE tOk rfl rfl (by conv => lhs; whnf) ?_ | refine ExOps.opR (OpOk.nextEnd rfl rfl [] rfl hp) rfl ?_)
      | (refine QSeq.g ?_; first | refine QSeq.norm ?_ | refine QSeq.ret ?_ | refine QSeq.exit ?_)
      | (refine QBlock.g ?_; first | refine QBlock.norm ?_ | refine QBlock.ret ?_ | refine QBlock.hit rfl ?_ | refine QBlock.miss rfl ?_)
      | (refine QLoop.g ?_; first | refine QLoop.ret ?_ | refine QLoop.exit ?_)
      | (refine QRet.g ?_; (first | ((first | refine QRet.end_ (.cons (.tmpE (by conv => lhs; whnf)) .nil) ?_ | refine QRet.endN (.cons (.tmpE (by conv => lhs; whnf)) .nil) ?_); try (focus first | rfl | (rfl; done))) | ((first | refine QRet.same (.cons (.tmpE (by conv => lhs; whnf)) .nil) ?_ ?_ | refine QRet.sameN (.cons (.tmpE (by conv => lhs; whnf)) .nil) ?_ ?_); try (rotate_left; (focus first | rfl | (rfl; done)); try (focus first | rfl | (rfl; done))))))
      | fail)
theorem rcheckrunes_ok (s0 : ByteArray) : Callable Tryz.prog 47 [.str s0] [] (Ret (.tup [.int .i64 (runesF s0).1, .int .i64 (runesF s0).2]) []) := by
  by_cases hs : s0.size > 16384
  · have e : runesF s0 = (0, 3) := by unfold runesF; rw [if_pos hs]
    rw [e]
    refine Callable.of_ex tOk [.tmp 2, .tmp 3] Tryz.func47 rfl rfl rfl (Nat.le_of_ble_eq_true rfl) ?_
    repeat' (first
      | (refine Ex.g ?_; first | refine Ex.seq ?_ | refine Ex.region ?_ | refine Ex.skip ?_ | refine Ex.ret ?_ | refine Ex.exit ?_ | refine Ex.block ?_ | (refine Ex.gCond ?_; first | refine Ex.condT rfl ?_ | refine Ex.condF rfl ?_ | refine Ex.condD rfl (fun hc => ?_) (fun hc => ?_) | refine Ex.condN rfl (fun hc => ?_) (fun hc => ?_) | refine Ex.cond rfl (fun hc => ?_) (fun hc => ?_)))
      | refine ExOps.nil ?_
      | (refine ExOps.gPC ?_; first | refine ExOps.opR (OpOk.len tOk rfl rfl rfl) rfl ?_)
      | (refine ExOps.gP ?_; first | (refine ExOps.gB ?_; refine ExOps.calcE tOk rfl rfl (by conv => lhs; simp [pev, upd, PV.cells, argSlots]) ?_) | refine ExOps.calcE tOk rfl rfl (by conv => lhs; whnf) ?_ | (refine ExOps.op (OpOk.rangeStr tOk rfl rfl rfl rfl) rfl ?_; rintro _ _ ⟨b, rfl, rfl⟩))
      | (refine ExOps.gG ?_; first | (refine ExOps.gIn rfl rfl ?_; first | (refine ExOps.gGC ?_; first | refine ExOps.opRG rfl rfl rfl (OpOk.len tOk rfl rfl rfl) rfl ?_) | (first | refine ExOps.calcGE tOk rfl rfl rfl rfl rfl (by conv => lhs; whnf) ?_)) | refine ExOps.skipGU rfl rfl rfl rfl ?_ | refine ExOps.skipU rfl rfl rfl ?_ | (refine ExOps.gOr1 ?_; refine' ExOps.or1 tOk rfl rfl rfl rfl rfl rfl rfl (by first | rfl | exact isDec _) (fun hg => ?_) ?_; rotate_left 3) | (refine ExOps.gOr2 ?_; refine' ExOps.or2 tOk rfl rfl rfl rfl rfl rfl rfl (by first | rfl | exact isDec _) (fun hg => ?_) ?_; rotate_left 3) | (refine ExOps.gOr4 ?_; refine' ExOps.or4 tOk rfl rfl rfl rfl rfl rfl rfl (by first | rfl | exact isDec _) (fun hg => ?_) ?_; rotate_left 3) | (refine ExOps.gOr7 ?_; refine' ExOps.or7 tOk rfl rfl rfl rfl rfl rfl rfl (by first | rfl | exact isDec _) (fun hg => ?_) ?_; rotate_left 3) | ((fail_if_success refine ExOps.gIn rfl rfl ?_); first | refine ExOps.guardD rfl rfl rfl (fun hg => ?_) (fun hg => ?_) | refine ExOps.guard rfl rfl rfl (fun hg => ?_) (fun hg => ?_)))
      | (refine QSeq.g ?_; first | refine QSeq.norm ?_ | refine QSeq.ret ?_ | refine QSeq.exit ?_)
      | (refine QBlock.g ?_; first | refine QBlock.norm ?_ | refine QBlock.ret ?_ | refine QBlock.hit rfl ?_ | refine QBlock.miss rfl ?_)
      | (refine QLoop.g ?_; first | refine QLoop.ret ?_ | refine QLoop.exit ?_)
      | (refine QRet.g ?_; (first | ((first | refine QRet.end_ (.cons (.tmpE (by conv => lhs; whnf)) (.cons (.tmpE (by conv => lhs; whnf)) .nil)) ?_ | refine QRet.endN (.cons (.tmpE (by conv => lhs; whnf)) (.cons (.tmpE (by conv => lhs; whnf)) .nil)) ?_); try (focus first | rfl | (rfl; done))) | ((first | refine QRet.same (.cons (.tmpE (by conv => lhs; whnf)) (.cons (.tmpE (by conv => lhs; whnf)) .nil)) ?_ ?_ | refine QRet.sameN (.cons (.tmpE (by conv => lhs; whnf)) (.cons (.tmpE (by conv => lhs; whnf)) .nil)) ?_ ?_); try (rotate_left; (focus first | rfl | (rfl; done)); try (focus first | rfl | (rfl; done))))))
      | refine ⟨rfl, (by first | rfl | exact isDec _), (by (repeat' (first | exact WkS.refl _ | refine WkS.upd ?_ Wk.junk)); first | done | fail), rfl⟩
      | fail)
    exfalso; omega
  · have e : runesF s0 = runesL s0.size s0 0 := by unfold runesF; rw [if_neg hs]
    rw [e]
    refine Callable.of_ex tOk [.tmp 2, .tmp 3] Tryz.func47 rfl rfl rfl (Nat.le_of_ble_eq_true rfl) ?_
    repeat' (first
      | (refine Ex.g ?_; first | refine Ex.seq ?_ | refine Ex.region ?_ | refine Ex.skip ?_ | refine Ex.ret ?_ | refine Ex.exit ?_ | refine Ex.block ?_ | (refine Ex.gCond ?_; first | refine Ex.condT rfl ?_ | refine Ex.condF rfl ?_ | refine Ex.condD rfl (fun hc => ?_) (fun hc => ?_) | refine Ex.condN rfl (fun hc => ?_) (fun hc => ?_) | refine Ex.cond rfl (fun hc => ?_) (fun hc => ?_)))
      | refine ExOps.nil ?_
      | (refine ExOps.gPC ?_; first | refine ExOps.opR (OpOk.len tOk rfl rfl rfl) rfl ?_)
      | (refine ExOps.gP ?_; first | (refine ExOps.gB ?_; refine ExOps.calcE tOk rfl rfl (by conv => lhs; simp [pev, upd, PV.cells, argSlots]) ?_) | refine ExOps.calcE tOk rfl rfl (by conv => lhs; whnf) ?_ | (refine ExOps.op (OpOk.rangeStr tOk rfl rfl rfl rfl) rfl ?_; rintro _ _ ⟨b, rfl, rfl⟩))
      | (refine ExOps.gG ?_; first | (refine ExOps.gIn rfl rfl ?_; first | (refine ExOps.gGC ?_; first | refine ExOps.opRG rfl rfl rfl (OpOk.len tOk rfl rfl rfl) rfl ?_) | (first | refine ExOps.calcGE tOk rfl rfl rfl rfl rfl (by conv => lhs; whnf) ?_)) | refine ExOps.skipGU rfl rfl rfl rfl ?_ | refine ExOps.skipU rfl rfl rfl ?_ | (refine ExOps.gOr1 ?_; refine' ExOps.or1 tOk rfl rfl rfl rfl rfl rfl rfl (by first | rfl | exact isDec _) (fun hg => ?_) ?_; rotate_left 3) | (refine ExOps.gOr2 ?_; refine' ExOps.or2 tOk rfl rfl rfl rfl rfl rfl rfl (by first | rfl | exact isDec _) (fun hg => ?_) ?_; rotate_left 3) | (refine ExOps.gOr4 ?_; refine' ExOps.or4 tOk rfl rfl rfl rfl rfl rfl rfl (by first | rfl | exact isDec _) (fun hg => ?_) ?_; rotate_left 3) | (refine ExOps.gOr7 ?_; refine' ExOps.or7 tOk rfl rfl rfl rfl rfl rfl rfl (by first | rfl | exact isDec _) (fun hg => ?_) ?_; rotate_left 3) | ((fail_if_success refine ExOps.gIn rfl rfl ?_); first | refine ExOps.guardD rfl rfl rfl (fun hg => ?_) (fun hg => ?_) | refine ExOps.guard rfl rfl rfl (fun hg => ?_) (fun hg => ?_)))
      | (refine QSeq.g ?_; first | refine QSeq.norm ?_ | refine QSeq.ret ?_ | refine QSeq.exit ?_)
      | (refine QBlock.g ?_; first | refine QBlock.norm ?_ | refine QBlock.ret ?_ | refine QBlock.hit rfl ?_ | refine QBlock.miss rfl ?_)
      | (refine QLoop.g ?_; first | refine QLoop.ret ?_ | refine QLoop.exit ?_)
      | (refine QRet.g ?_; (first | ((first | refine QRet.end_ (.cons (.tmpE (by conv => lhs; whnf)) (.cons (.tmpE (by conv => lhs; whnf)) .nil)) ?_ | refine QRet.endN (.cons (.tmpE (by conv => lhs; whnf)) (.cons (.tmpE (by conv => lhs; whnf)) .nil)) ?_); try (focus first | rfl | (simp_all [packP]; done))) | ((first | refine QRet.same (.cons (.tmpE (by conv => lhs; whnf)) (.cons (.tmpE (by conv => lhs; whnf)) .nil)) ?_ ?_ | refine QRet.sameN (.cons (.tmpE (by conv => lhs; whnf)) (.cons (.tmpE (by conv => lhs; whnf)) .nil)) ?_ ?_); try (rotate_left; (focus first | rfl | (simp_all [packP]; done)); try (focus first | rfl | (simp_all [packP]; done))))))
      | refine ⟨rfl, (by first | rfl | exact isDec _), (by (repeat' (first | exact WkS.refl _ | refine WkS.upd ?_ Wk.junk)); first | done | fail), rfl⟩
      | fail)
    · exfalso; omega
    refine Ex.loop (fun m s σ => ∃ pos : Nat, (s0.size ≤ pos + m) ∧ (runesL s0.size s0 0 = runesL m s0 pos) ∧ s 10 = .loc b 0 ∧ σ = [.iter b s0 pos]) (s0.size) ⟨0, (by first | rfl | assumption | omega | exact slot_check rfl | (simp; done) | (simp; omega) | fail), (by first | rfl | assumption | omega | exact slot_check rfl | (simp; done) | (simp; omega) | fail), (by first | rfl | assumption | omega | exact slot_check rfl | (simp; done) | (simp; omega) | fail), rfl⟩ ?_
    rintro m s σ ⟨pos, hi0, hi1, h10, rfl⟩
    refine (Ex.have_ (t := 10) h10 ?_)
    by_cases hpos : pos < s0.size
    · have hw := Lib.decode_width_pos s0 pos hpos
      obtain ⟨m, rfl⟩ : ∃ k, m = k + 1 := ⟨m - 1, by omega⟩
      rw [runesL_in hpos] at hi1
      repeat' (first
        | (refine Ex.g ?_; first | refine Ex.seq ?_ | refine Ex.region ?_ | refine Ex.skip ?_ | refine Ex.ret ?_ | refine Ex.exit ?_ | refine Ex.block ?_ | (refine Ex.gCond ?_; first | refine Ex.condT rfl ?_ | refine Ex.condF rfl ?_ | refine Ex.condD rfl (fun hc => ?_) (fun hc => ?_) | refine Ex.condN rfl (fun hc => ?_) (fun hc => ?_) | refine Ex.cond rfl (fun hc => ?_) (fun hc => ?_)))
        | refine ExOps.nil ?_
        | (refine ExOps.gPC ?_; first | refine ExOps.opR (OpOk.len tOk rfl rfl rfl) rfl ?_ | refine ExOps.opR (.cp rfl rfl rfl (h := class_ok _)) rfl ?_)
        | (refine ExOps.gP ?_; first | (refine ExOps.gB ?_; refine ExOps.calcE tOk rfl rfl (by conv => lhs; simp [pev, upd, PV.cells, argSlots]) ?_) | refine ExOps.calcE tOk rfl rfl (by conv => lhs; whnf) ?_ | refine ExOps.opR (OpOk.nextIn rfl rfl [] rfl hpos) rfl ?_)
        | (refine ExOps.gG ?_; first | (refine ExOps.gIn rfl rfl ?_; first | (refine ExOps.gGC ?_; first | refine ExOps.opRG rfl rfl rfl (OpOk.len tOk rfl rfl rfl) rfl ?_ | refine ExOps.opRG rfl rfl rfl (.cp rfl rfl rfl (h := class_ok _)) rfl ?_) | (first | refine ExOps.calcGE tOk rfl rfl rfl rfl rfl (by conv => lhs; whnf) ?_ | refine ExOps.opRG rfl rfl rfl (OpOk.nextIn rfl rfl [] rfl hpos) rfl ?_)) | refine ExOps.skipGU rfl rfl rfl rfl ?_ | refine ExOps.skipU rfl rfl rfl ?_ | (refine ExOps.gOr1 ?_; refine' ExOps.or1 tOk rfl rfl rfl rfl rfl rfl rfl (by first | rfl | exact isDec _) (fun hg => ?_) ?_; rotate_left 3) | (refine ExOps.gOr2 ?_; refine' ExOps.or2 tOk rfl rfl rfl rfl rfl rfl rfl (by first | rfl | exact isDec _) (fun hg => ?_) ?_; rotate_left 3) | (refine ExOps.gOr4 ?_; refine' ExOps.or4 tOk rfl rfl rfl rfl rfl rfl rfl (by first | rfl | exact isDec _) (fun hg => ?_) ?_; rotate_left 3) | (refine ExOps.gOr7 ?_; refine' ExOps.or7 tOk rfl rfl rfl rfl rfl rfl rfl (by first | rfl | exact isDec _) (fun hg => ?_) ?_; rotate_left 3) | ((fail_if_success refine ExOps.gIn rfl rfl ?_); first | refine ExOps.guardD rfl rfl rfl (fun hg => ?_) (fun hg => ?_) | refine ExOps.guard rfl rfl rfl (fun hg => ?_) (fun hg => ?_)))
        | (refine QSeq.g ?_; first | refine QSeq.norm ?_ | refine QSeq.ret ?_ | refine QSeq.exit ?_)
        | (refine QBlock.g ?_; first | refine QBlock.norm ?_ | refine QBlock.ret ?_ | refine QBlock.hit rfl ?_ | refine QBlock.miss rfl ?_)
        | (refine QLoop.g ?_; first | refine QLoop.ret ?_ | refine QLoop.exit ?_)
        | (refine QRet.g ?_; (first | ((first | refine QRet.end_ (.cons (.tmpE (by conv => lhs; whnf)) (.cons (.tmpE (by conv => lhs; whnf)) .nil)) ?_ | refine QRet.endN (.cons (.tmpE (by conv => lhs; whnf)) (.cons (.tmpE (by conv => lhs; whnf)) .nil)) ?_); try (focus first | rfl | ((rw [hi1, if_pos (by unfold badRune; refine decide_eq_true ?_; omega)]; rfl); done))) | ((first | refine QRet.same (.cons (.tmpE (by conv => lhs; whnf)) (.cons (.tmpE (by conv => lhs; whnf)) .nil)) ?_ ?_ | refine QRet.sameN (.cons (.tmpE (by conv => lhs; whnf)) (.cons (.tmpE (by conv => lhs; whnf)) .nil)) ?_ ?_); try (rotate_left; (focus first | rfl | ((rw [hi1, if_pos (by unfold badRune; refine decide_eq_true ?_; omega)]; rfl); done)); try (focus first | rfl | ((rw [hi1, if_pos (by unfold badRune; refine decide_eq_true ?_; omega)]; rfl); done))))))
        | refine ⟨rfl, (by first | rfl | exact isDec _), (by (repeat' (first | exact WkS.refl _ | refine WkS.upd ?_ Wk.junk)); first | done | fail), rfl⟩
        | fail)
      all_goals
        rw [if_neg (by unfold badRune; simp only [decide_eq_true_eq]; omega)] at hi1
        exact QLoop.next (m) (by omega) ⟨pos + (Utf8.decode s0 pos).2, (by first | rfl | omega | exact (congrArg (PV.int .i64) (by (try simp only [Int.toNat_natCast]); (try rw [wrap_id (by omega) (by omega)]); (try split) <;> omega)) | assumption | (simp; done) | fail), (by first | rfl | omega | exact (congrArg (PV.int .i64) (by (try simp only [Int.toNat_natCast]); (try rw [wrap_id (by omega) (by omega)]); (try split) <;> omega)) | assumption | (simp; done) | fail), (by first | rfl | omega | exact (congrArg (PV.int .i64) (by (try simp only [Int.toNat_natCast]); (try rw [wrap_id (by omega) (by omega)]); (try split) <;> omega)) | assumption | (simp; done) | fail), rfl⟩
    · rw [runesL_out hpos] at hi1
      rw [hi1]
      repeat' (first
        | (refine Ex.g ?_; first | refine Ex.seq ?_ | refine Ex.region ?_ | refine Ex.skip ?_ | refine Ex.ret ?_ | refine Ex.exit ?_ | refine Ex.block ?_ | (refine Ex.gCond ?_; first | refine Ex.condT rfl ?_ | refine Ex.condF rfl ?_ | refine Ex.condD rfl (fun hc => ?_) (fun hc => ?_) | refine Ex.condN rfl (fun hc => ?_) (fun hc => ?_) | refine Ex.cond rfl (fun hc => ?_) (fun hc => ?_)))
        | refine ExOps.nil ?_
        | (refine ExOps.gPC ?_; first | refine ExOps.opR (OpOk.len tOk rfl rfl rfl) rfl ?_)
        | (refine ExOps.gP ?_; first | (refine ExOps.gB ?_; refine ExOps.calcE tOk rfl rfl (by conv => lhs; simp [pev, upd, PV.cells, argSlots]) ?_) | refine ExOps.calcE tOk rfl rfl (by conv => lhs; whnf) ?_ | refine ExOps.opR (OpOk.nextEnd rfl rfl [] rfl hpos) rfl ?_)
        | (refine ExOps.gG ?_; first | (refine ExOps.gIn rfl rfl ?_; first | (refine ExOps.gGC ?_; first | refine ExOps.opRG rfl rfl rfl (OpOk.len tOk rfl rfl rfl) rfl ?_) | (first | refine ExOps.calcGE tOk rfl rfl rfl rfl rfl (by conv => lhs; whnf) ?_ | refine ExOps.opRG rfl rfl rfl (OpOk.nextEnd rfl rfl [] rfl hpos) rfl ?_)) | refine ExOps.skipGU rfl rfl rfl rfl ?_ | refine ExOps.skipU rfl rfl rfl ?_ | (refine ExOps.gOr1 ?_; refine' ExOps.or1 tOk rfl rfl rfl rfl rfl rfl rfl (by first | rfl | exact isDec _) (fun hg => ?_) ?_; rotate_left 3) | (refine ExOps.gOr2 ?_; refine' ExOps.or2 tOk rfl rfl rfl rfl rfl rfl rfl (by first | rfl | exact isDec _) (fun hg => ?_) ?_; rotate_left 3) | (refine ExOps.gOr4 ?_; refine' ExOps.or4 tOk rfl rfl rfl rfl rfl rfl rfl (by first | rfl | exact isDec _) (fun hg => ?_) ?_; rotate_left 3) | (refine ExOps.gOr7 ?_; refine' ExOps.or7 tOk rfl rfl rfl rfl rfl rfl rfl (by first | rfl | exact isDec _) (fun hg => ?_) ?_; rotate_left 3) | ((fail_if_success refine ExOps.gIn rfl rfl ?_); first | refine ExOps.guardD rfl rfl rfl (fun hg => ?_) (fun hg => ?_) | refine ExOps.guard rfl rfl rfl (fun hg => ?_) (fun hg => ?_)))
        | (refine QSeq.g ?_; first | refine QSeq.norm ?_ | refine QSeq.ret ?_ | refine QSeq.exit ?_)
        | (refine QBlock.g ?_; first | refine QBlock.norm ?_ | refine QBlock.ret ?_ | refine QBlock.hit rfl ?_ | refine QBlock.miss rfl ?_)
        | (refine QLoop.g ?_; first | refine QLoop.ret ?_ | refine QLoop.exit ?_)
        | (refine QRet.g ?_; (first | ((first | refine QRet.end_ (.cons (.tmpE (by conv => lhs; whnf)) (.cons (.tmpE (by conv => lhs; whnf)) .nil)) ?_ | refine QRet.endN (.cons (.tmpE (by conv => lhs; whnf)) (.cons (.tmpE (by conv => lhs; whnf)) .nil)) ?_); try (focus first | rfl | (rfl; done))) | ((first | refine QRet.same (.cons (.tmpE (by conv => lhs; whnf)) (.cons (.tmpE (by conv => lhs; whnf)) .nil)) ?_ ?_ | refine QRet.sameN (.cons (.tmpE (by conv => lhs; whnf)) (.cons (.tmpE (by conv => lhs; whnf)) .nil)) ?_ ?_); try (rotate_left; (focus first | rfl | (rfl; done)); try (focus first | rfl | (rfl; done))))))
        | refine ⟨rfl, (by first | rfl | exact isDec _), (by (repeat' (first | exact WkS.refl _ | refine WkS.upd ?_ Wk.junk)); first | done | fail), rfl⟩
        | fail)

theorem commentL_in {k : Nat} {s : ByteArray} {i : Nat} {deep : Int} (h : i < s.size) : commentL (k + 1) s i deep = if prefF (s.extract i s.size) b_po = true then commentL k s (i + 2) (deep + 1) else if prefF (s.extract i s.size) b_pc = true then (if deep - 1 = 0 then i + 2 else commentL k s (i + 2) (deep - 1)) else commentL k s (i + 1) deep := by rw [commentL, if_pos h]
theorem commentL_out {k : Nat} {s : ByteArray} {i : Nat} {deep : Int} (h : ¬ i < s.size) : commentL k s i deep = 0 := by cases k <;> simp [commentL, h]
theorem prefF_two {s : ByteArray} {i : Nat} {x : ByteArray} (hx : x.size = 2) (h : prefF (s.extract i s.size) x = true) : i + 2 ≤ s.size := by
  have h1 := prefF_le h
  rw [hx, ByteArray.size_extract] at h1; omega
theorem comment_ok (s0 : ByteArray) (hs : s0.size ≤ 1099511627776) : Callable Tryz.prog 52 [.str s0] [] (Ret (.int .i64 (commentF s0)) []) := by
  have h0 : commentF s0 = commentL s0.size s0 0 0 := by unfold commentF; rfl
  rw [h0]
  refine Callable.of_ex tOk [.tmp 2] Tryz.func52 rfl rfl rfl (Nat.le_of_ble_eq_true rfl) ?_
  repeat' (first
    | (refine Ex.g ?_; first | refine Ex.seq ?_ | refine Ex.region ?_ | refine Ex.skip ?_ | refine Ex.ret ?_ | refine Ex.exit ?_ | refine Ex.block ?_ | (refine Ex.gCond ?_; first | refine Ex.condT rfl ?_ | refine Ex.condF rfl ?_ | refine Ex.condD rfl (fun hc => ?_) (fun hc => ?_) | refine Ex.condN rfl (fun hc => ?_) (fun hc => ?_) | refine Ex.cond rfl (fun hc => ?_) (fun hc => ?_)))
    | refine ExOps.nil ?_
    | (refine ExOps.gPC ?_; first | refine ExOps.opR (OpOk.len tOk rfl rfl rfl) rfl ?_)
    | (refine ExOps.gP ?_; first | (refine ExOps.gB ?_; refine ExOps.calcE tOk rfl rfl (by conv => lhs; simp [pev, upd, PV.cells, argSlots]) ?_) | refine ExOps.calcE tOk rfl rfl (by conv => lhs; whnf) ?_)
    | (refine QSeq.g ?_; first | refine QSeq.norm ?_ | refine QSeq.ret ?_ | refine QSeq.exit ?_)
    | (refine QBlock.g ?_; first | refine QBlock.norm ?_ | refine QBlock.ret ?_ | refine QBlock.hit rfl ?_ | refine QBlock.miss rfl ?_)
    | (refine QLoop.g ?_; first | refine QLoop.ret ?_ | refine QLoop.exit ?_)
    | (refine QRet.g ?_; (first | ((first | refine QRet.end_ (.cons (.tmpE (by conv => lhs; whnf)) .nil) ?_ | refine QRet.endN (.cons (.tmpE (by conv => lhs; whnf)) .nil) ?_); try (focus first | rfl | (simp_all [packP]; done))) | ((first | refine QRet.same (.cons (.tmpE (by conv => lhs; whnf)) .nil) ?_ ?_ | refine QRet.sameN (.cons (.tmpE (by conv => lhs; whnf)) .nil) ?_ ?_); try (rotate_left; (focus first | rfl | (simp_all [packP]; done)); try (focus first | rfl | (simp_all [packP]; done))))))
    | fail)
  refine Ex.loop (fun m s σ => ∃ i : Nat, ∃ deep : Int, ((s0.size ≤ i + m ∧ i ≤ s0.size) ∧ -i ≤ deep ∧ deep ≤ i) ∧ (commentL s0.size s0 0 0 = commentL m s0 i deep) ∧ s 0 = .str s0 ∧ s 3 = .int .i64 deep ∧ s 4 = .int .i64 i ∧ σ = []) (s0.size) ⟨0, 0, (by first | rfl | assumption | omega | exact slot_check rfl | (simp; done) | (simp; omega) | fail), (by first | rfl | assumption | omega | exact slot_check rfl | (simp; done) | (simp; omega) | fail), (by first | rfl | assumption | omega | exact slot_check rfl | (simp; done) | (simp; omega) | fail), (by first | rfl | assumption | omega | exact slot_check rfl | (simp; done) | (simp; omega) | fail), (by first | rfl | assumption | omega | exact slot_check rfl | (simp; done) | (simp; omega) | fail), rfl⟩ ?_
  rintro m s σ ⟨i, deep, hi0, hi1, h0, h3, h4, rfl⟩
  refine (Ex.have_ (t := 0) h0 (Ex.have_ (t := 3) h3 (Ex.have_ (t := 4) h4 ?_)))
  obtain ⟨⟨h1, h2⟩, h3, h4⟩ := hi0
  by_cases hi : i < s0.size
  · obtain ⟨m, rfl⟩ : ∃ k, m = k + 1 := ⟨m - 1, by omega⟩
    rw [commentL_in hi] at hi1
    by_cases c1 : prefF (s0.extract i s0.size) b_po = true
    · have hp := sprefix_ok (s0.extract i s0.size) b_po
      have hb := prefF_two rfl c1
      rw [c1] at hp
      rw [if_pos c1] at hi1
      repeat' (first
        | (refine Ex.g ?_; first | refine Ex.seq ?_ | refine Ex.region ?_ | refine Ex.skip ?_ | refine Ex.ret ?_ | refine Ex.exit ?_ | refine Ex.block ?_ | (refine Ex.gCond ?_; first | refine Ex.condT rfl ?_ | refine Ex.condF rfl ?_ | refine Ex.condD rfl (fun hc => ?_) (fun hc => ?_) | refine Ex.condN rfl (fun hc => ?_) (fun hc => ?_) | refine Ex.cond rfl (fun hc => ?_) (fun hc => ?_)))
        | refine ExOps.nil ?_
        | (refine ExOps.gPC ?_; first | refine ExOps.opR (OpOk.len tOk rfl rfl rfl) rfl ?_ | refine ExOps.opR (.cp rfl rfl rfl (h := hp)) rfl ?_)
        | (refine ExOps.gP ?_; first | (refine ExOps.gBin ?_; refine ExOps.calcE tOk rfl rfl (by first | exact eqT rfl | exact eqF (fun h => h rfl) | exact beqT _ | exact wrapB _ _ | exact wrapE (by omega) (by omega) | exact wrapE32 (by omega) (by omega) | fail) ?_) | (refine ExOps.gB ?_; refine ExOps.calcE tOk rfl rfl (by conv => lhs; simp [pev, upd, PV.cells, argSlots]) ?_) | refine ExOps.calcE tOk rfl rfl (by conv => lhs; whnf) ?_ | refine ExOps.opR (OpOk.sliceSL tOk rfl rfl rfl rfl rfl (by omega)) rfl ?_)
        | (refine QSeq.g ?_; first | refine QSeq.norm ?_ | refine QSeq.ret ?_ | refine QSeq.exit ?_)
        | (refine QBlock.g ?_; first | refine QBlock.norm ?_ | refine QBlock.ret ?_ | refine QBlock.hit rfl ?_ | refine QBlock.miss rfl ?_)
        | (refine QLoop.g ?_; first | refine QLoop.ret ?_ | refine QLoop.exit ?_)
        | (refine QRet.g ?_; (first | ((first | refine QRet.end_ (.cons (.tmpE (by conv => lhs; whnf)) .nil) ?_ | refine QRet.endN (.cons (.tmpE (by conv => lhs; whnf)) .nil) ?_); try (focus first | rfl | (simp_all [packP]; done))) | ((first | refine QRet.same (.cons (.tmpE (by conv => lhs; whnf)) .nil) ?_ ?_ | refine QRet.sameN (.cons (.tmpE (by conv => lhs; whnf)) .nil) ?_ ?_); try (rotate_left; (focus first | rfl | (simp_all [packP]; done)); try (focus first | rfl | (simp_all [packP]; done))))))
        | fail)
      all_goals first | (exfalso; omega) | skip
      exact QLoop.next m (by omega) ⟨i + 2, deep + 1, ⟨⟨by omega, by omega⟩, by omega, by omega⟩, hi1, rfl, rfl, rfl, rfl⟩
    rw [if_neg c1] at hi1
    have hp1 := sprefix_ok (s0.extract i s0.size) b_po
    rw [Bool.eq_false_iff.2 c1] at hp1
    by_cases c2 : prefF (s0.extract i s0.size) b_pc = true
    · have hp := sprefix_ok (s0.extract i s0.size) b_pc
      have hb := prefF_two rfl c2
      rw [c2] at hp
      rw [if_pos c2] at hi1
      by_cases c3 : deep - 1 = 0
      · rw [if_pos c3] at hi1
        rw [hi1]
        repeat' (first
          | (refine Ex.g ?_; first | refine Ex.seq ?_ | refine Ex.region ?_ | refine Ex.skip ?_ | refine Ex.ret ?_ | refine Ex.exit ?_ | refine Ex.block ?_ | (refine Ex.gCond ?_; first | refine Ex.condT rfl ?_ | refine Ex.condF rfl ?_ | refine Ex.condD rfl (fun hc => ?_) (fun hc => ?_) | refine Ex.condN rfl (fun hc => ?_) (fun hc => ?_) | refine Ex.cond rfl (fun hc => ?_) (fun hc => ?_)))
          | refine ExOps.nil ?_
          | (refine ExOps.gPC ?_; first | refine ExOps.opR (OpOk.len tOk rfl rfl rfl) rfl ?_ | refine ExOps.opR (.cp rfl rfl rfl (h := hp1)) rfl ?_ | refine ExOps.opR (.cp rfl rfl rfl (h := hp)) rfl ?_)
          | (refine ExOps.gP ?_; first | (refine ExOps.gBin ?_; refine ExOps.calcE tOk rfl rfl (by first | exact eqT rfl | exact eqF (fun h => h rfl) | exact beqT _ | exact wrapB _ _ | exact wrapE (by omega) (by omega) | exact wrapE32 (by omega) (by omega) | fail) ?_) | (refine ExOps.gB ?_; refine ExOps.calcE tOk rfl rfl (by conv => lhs; simp [pev, upd, PV.cells, argSlots]) ?_) | refine ExOps.calcE tOk rfl rfl (by conv => lhs; whnf) ?_ | refine ExOps.opR (OpOk.sliceSL tOk rfl rfl rfl rfl rfl (by omega)) rfl ?_)
          | (refine QSeq.g ?_; first | refine QSeq.norm ?_ | refine QSeq.ret ?_ | refine QSeq.exit ?_)
          | (refine QBlock.g ?_; first | refine QBlock.norm ?_ | refine QBlock.ret ?_ | refine QBlock.hit rfl ?_ | refine QBlock.miss rfl ?_)
          | (refine QLoop.g ?_; first | refine QLoop.ret ?_ | refine QLoop.exit ?_)
          | (refine QRet.g ?_; (first | ((first | refine QRet.end_ (.cons (.tmpE (by conv => lhs; whnf)) .nil) ?_ | refine QRet.endN (.cons (.tmpE (by conv => lhs; whnf)) .nil) ?_); try (focus first | rfl | (rfl; done))) | ((first | refine QRet.same (.cons (.tmpE (by conv => lhs; whnf)) .nil) ?_ ?_ | refine QRet.sameN (.cons (.tmpE (by conv => lhs; whnf)) .nil) ?_ ?_); try (rotate_left; (focus first | rfl | (rfl; done)); try (focus first | rfl | (rfl; done))))))
          | fail)
        all_goals (exfalso; omega)
      · rw [if_neg c3] at hi1
        repeat' (first
          | (refine Ex.g ?_; first | refine Ex.seq ?_ | refine Ex.region ?_ | refine Ex.skip ?_ | refine Ex.ret ?_ | refine Ex.exit ?_ | refine Ex.block ?_ | (refine Ex.gCond ?_; first | refine Ex.condT rfl ?_ | refine Ex.condF rfl ?_ | refine Ex.condD rfl (fun hc => ?_) (fun hc => ?_) | refine Ex.condN rfl (fun hc => ?_) (fun hc => ?_) | refine Ex.cond rfl (fun hc => ?_) (fun hc => ?_)))
          | refine ExOps.nil ?_
          | (refine ExOps.gPC ?_; first | refine ExOps.opR (OpOk.len tOk rfl rfl rfl) rfl ?_ | refine ExOps.opR (.cp rfl rfl rfl (h := hp1)) rfl ?_ | refine ExOps.opR (.cp rfl rfl rfl (h := hp)) rfl ?_)
          | (refine ExOps.gP ?_; first | (refine ExOps.gBin ?_; refine ExOps.calcE tOk rfl rfl (by first | exact eqT rfl | exact eqF (fun h => h rfl) | exact beqT _ | exact wrapB _ _ | exact wrapE (by omega) (by omega) | exact wrapE32 (by omega) (by omega) | fail) ?_) | (refine ExOps.gB ?_; refine ExOps.calcE tOk rfl rfl (by conv => lhs; simp [pev, upd, PV.cells, argSlots]) ?_) | refine ExOps.calcE tOk rfl rfl (by conv => lhs; whnf) ?_ | refine ExOps.opR (OpOk.sliceSL tOk rfl rfl rfl rfl rfl (by omega)) rfl ?_)
          | (refine QSeq.g ?_; first | refine QSeq.norm ?_ | refine QSeq.ret ?_ | refine QSeq.exit ?_)
          | (refine QBlock.g ?_; first | refine QBlock.norm ?_ | refine QBlock.ret ?_ | refine QBlock.hit rfl ?_ | refine QBlock.miss rfl ?_)
          | (refine QLoop.g ?_; first | refine QLoop.ret ?_ | refine QLoop.exit ?_)
          | (refine QRet.g ?_; (first | ((first | refine QRet.end_ (.cons (.tmpE (by conv => lhs; whnf)) .nil) ?_ | refine QRet.endN (.cons (.tmpE (by conv => lhs; whnf)) .nil) ?_); try (focus first | rfl | (simp_all [packP]; done))) | ((first | refine QRet.same (.cons (.tmpE (by conv => lhs; whnf)) .nil) ?_ ?_ | refine QRet.sameN (.cons (.tmpE (by conv => lhs; whnf)) .nil) ?_ ?_); try (rotate_left; (focus first | rfl | (simp_all [packP]; done)); try (focus first | rfl | (simp_all [packP]; done))))))
          | fail)
        all_goals first | (exfalso; omega) | skip
        exact QLoop.next m (by omega) ⟨i + 2, deep - 1, ⟨⟨by omega, by omega⟩, by omega, by omega⟩, hi1, rfl, rfl, rfl, rfl⟩
    · have hp := sprefix_ok (s0.extract i s0.size) b_pc
      rw [Bool.eq_false_iff.2 c2] at hp
      rw [if_neg c2] at hi1
      repeat' (first
        | (refine Ex.g ?_; first | refine Ex.seq ?_ | refine Ex.region ?_ | refine Ex.skip ?_ | refine Ex.ret ?_ | refine Ex.exit ?_ | refine Ex.block ?_ | (refine Ex.gCond ?_; first | refine Ex.condT rfl ?_ | refine Ex.condF rfl ?_ | refine Ex.condD rfl (fun hc => ?_) (fun hc => ?_) | refine Ex.condN rfl (fun hc => ?_) (fun hc => ?_) | refine Ex.cond rfl (fun hc => ?_) (fun hc => ?_)))
        | refine ExOps.nil ?_
        | (refine ExOps.gPC ?_; first | refine ExOps.opR (OpOk.len tOk rfl rfl rfl) rfl ?_ | refine ExOps.opR (.cp rfl rfl rfl (h := hp1)) rfl ?_ | refine ExOps.opR (.cp rfl rfl rfl (h := hp)) rfl ?_)
        | (refine ExOps.gP ?_; first | (refine ExOps.gBin ?_; refine ExOps.calcE tOk rfl rfl (by first | exact eqT rfl | exact eqF (fun h => h rfl) | exact beqT _ | exact wrapB _ _ | exact wrapE (by omega) (by omega) | exact wrapE32 (by omega) (by omega) | fail) ?_) | (refine ExOps.gB ?_; refine ExOps.calcE tOk rfl rfl (by conv => lhs; simp [pev, upd, PV.cells, argSlots]) ?_) | refine ExOps.calcE tOk rfl rfl (by conv => lhs; whnf) ?_ | refine ExOps.opR (OpOk.sliceSL tOk rfl rfl rfl rfl rfl (by omega)) rfl ?_)
        | (refine QSeq.g ?_; first | refine QSeq.norm ?_ | refine QSeq.ret ?_ | refine QSeq.exit ?_)
        | (refine QBlock.g ?_; first | refine QBlock.norm ?_ | refine QBlock.ret ?_ | refine QBlock.hit rfl ?_ | refine QBlock.miss rfl ?_)
        | (refine QLoop.g ?_; first | refine QLoop.ret ?_ | refine QLoop.exit ?_)
        | (refine QRet.g ?_; (first | ((first | refine QRet.end_ (.cons (.tmpE (by conv => lhs; whnf)) .nil) ?_ | refine QRet.endN (.cons (.tmpE (by conv => lhs; whnf)) .nil) ?_); try (focus first | rfl | (simp_all [packP]; done))) | ((first | refine QRet.same (.cons (.tmpE (by conv => lhs; whnf)) .nil) ?_ ?_ | refine QRet.sameN (.cons (.tmpE (by conv => lhs; whnf)) .nil) ?_ ?_); try (rotate_left; (focus first | rfl | (simp_all [packP]; done)); try (focus first | rfl | (simp_all [packP]; done))))))
        | fail)
      all_goals first | (exfalso; omega) | skip
      exact QLoop.next m (by omega) ⟨i + 1, deep, ⟨⟨by omega, by omega⟩, by omega, by omega⟩, hi1, rfl, rfl, rfl, rfl⟩
  · rw [commentL_out hi] at hi1
    rw [hi1]
    repeat' (first
      | (refine Ex.g ?_; first | refine Ex.seq ?_ | refine Ex.region ?_ | refine Ex.skip ?_ | refine Ex.ret ?_ | refine Ex.exit ?_ | refine Ex.block ?_ | (refine Ex.gCond ?_; first | refine Ex.condT rfl ?_ | refine Ex.condF rfl ?_ | refine Ex.condD rfl (fun hc => ?_) (fun hc => ?_) | refine Ex.condN rfl (fun hc => ?_) (fun hc => ?_) | refine Ex.cond rfl (fun hc => ?_) (fun hc => ?_)))
      | refine ExOps.nil ?_
      | (refine ExOps.gPC ?_; first | refine ExOps.opR (OpOk.len tOk rfl rfl rfl) rfl ?_)
      | (refine ExOps.gP ?_; first | (refine ExOps.gB ?_; refine ExOps.calcE tOk rfl rfl (by conv => lhs; simp [pev, upd, PV.cells, argSlots]) ?_) | refine ExOps.calcE tOk rfl rfl (by conv => lhs; whnf) ?_)
      | (refine QSeq.g ?_; first | refine QSeq.norm ?_ | refine QSeq.ret ?_ | refine QSeq.exit ?_)
      | (refine QBlock.g ?_; first | refine QBlock.norm ?_ | refine QBlock.ret ?_ | refine QBlock.hit rfl ?_ | refine QBlock.miss rfl ?_)
      | (refine QLoop.g ?_; first | refine QLoop.ret ?_ | refine QLoop.exit ?_)
      | (refine QRet.g ?_; (first | ((first | refine QRet.end_ (.cons (.tmpE (by conv => lhs; whnf)) .nil) ?_ | refine QRet.endN (.cons (.tmpE (by conv => lhs; whnf)) .nil) ?_); try (focus first | rfl | (rfl; done))) | ((first | refine QRet.same (.cons (.tmpE (by conv => lhs; whnf)) .nil) ?_ ?_ | refine QRet.sameN (.cons (.tmpE (by conv => lhs; whnf)) .nil) ?_ ?_); try (rotate_left; (focus first | rfl | (rfl; done)); try (focus first | rfl | (rfl; done))))))
      | fail)
    all_goals (exfalso; omega)
theorem signs_ok : Callable Tryz.prog 90 [] [] (Ret (.ful (strs signsF) 17) []) := by
  refine Callable.of_ex tOk [.tmp 0] Tryz.func90 rfl rfl rfl (Nat.le_of_ble_eq_true rfl) ?_
  repeat' (first
    | (refine Ex.g ?_; first | refine Ex.seq ?_ | refine Ex.region ?_ | refine Ex.skip ?_ | refine Ex.ret ?_ | refine Ex.exit ?_ | (refine Ex.gCond ?_; first | refine Ex.condT rfl ?_ | refine Ex.condF rfl ?_ | refine Ex.condD rfl (fun hc => ?_) (fun hc => ?_) | refine Ex.condN rfl (fun hc => ?_) (fun hc => ?_) | refine Ex.cond rfl (fun hc => ?_) (fun hc => ?_)))
    | refine ExOps.nil ?_
    | (refine ExOps.gPC ?_; first | refine ExOps.opR (OpOk.len tOk rfl rfl rfl) rfl ?_)
    | (refine ExOps.gP ?_; first | (refine ExOps.gBS ?_; refine ExOps.calcE tOk (r := .ful (strs signsF) 17) rfl rfl (by kernel_rfl) ?_) | (refine ExOps.gB ?_; refine ExOps.calcE tOk rfl rfl (by conv => lhs; simp [pev, upd, PV.cells, argSlots]) ?_) | refine ExOps.calcE tOk rfl rfl (by conv => lhs; whnf) ?_)
    | (refine QSeq.g ?_; first | refine QSeq.norm ?_ | refine QSeq.ret ?_ | refine QSeq.exit ?_)
    | (refine QRet.g ?_; (first | ((first | refine QRet.end_ (.cons (.tmpE (by conv => lhs; whnf)) .nil) ?_ | refine QRet.endN (.cons (.tmpE (by conv => lhs; whnf)) .nil) ?_); try (focus first | rfl | (simp_all [packP]; done))) | ((first | refine QRet.same (.cons (.tmpE (by conv => lhs; whnf)) .nil) ?_ ?_ | refine QRet.sameN (.cons (.tmpE (by conv => lhs; whnf)) .nil) ?_ ?_); try (rotate_left; (focus first | rfl | (simp_all [packP]; done)); try (focus first | rfl | (simp_all [packP]; done))))))
    | fail)
end Go.Proofs.YtceoldiblphahaaGreatDoor
