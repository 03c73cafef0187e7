/- Contracts of packages shape, ptype on small types. -/
import Derived.Test.YtceoldiblphahaaGreatDoorMqP2
set_option linter.unusedVariables false
set_option linter.unusedSimpArgs false
set_option linter.unusedSectionVars false
namespace Go.Proofs.YtceoldiblphahaaGreatDoor
open Go.Mq
attribute [local irreducible] Ex ExOps QSeq QBlock QLoop QRet OpOk Callable DEx DRd Melt Wk Tree.pv pvs toks opv strs

attribute [local irreducible] nameF wordF checkF longF
set_option maxHeartbeats 4000000

theorem kids_two (k : Int) (s0 : ByteArray) (a b : Tree) (f : Nat) (ha : Callable Tryz.prog f [a.pv] [] (Ret (.bool true) [])) (hb : Callable Tryz.prog f [b.pv] [] (Ret (.bool true) [])) : Callable Tryz.prog 74 [ndv k s0 (.slc [a.pv, b.pv] 2), .ful [.func f [] [], .func f [] []] 2] [] (Ret (.bool true) []) := by
  refine Callable.of_ex tOk [.tmp 4] Tryz.func74 rfl rfl rfl (Nat.le_of_ble_eq_true rfl) ?_
  repeat' (first
    | (refine Ex.g ?_; first | refine Ex.seq ?_ | refine Ex.region ?_ | refine Ex.skip ?_ | refine Ex.ret ?_ | refine Ex.exit ?_ | refine Ex.block ?_ | (refine Ex.gCond ?_; first | refine Ex.condT rfl ?_ | refine Ex.condF rfl ?_ | refine Ex.condD rfl (fun hc => ?_) (fun hc => ?_) | refine Ex.condN rfl (fun hc => ?_) (fun hc => ?_) | refine Ex.cond rfl (fun hc => ?_) (fun hc => ?_)))
    | refine ExOps.nil ?_
    | (refine ExOps.gPC ?_; first | refine ExOps.opR (OpOk.len tOk rfl rfl rfl) rfl ?_)
    | (refine ExOps.gP ?_; first | (refine ExOps.gBin ?_; refine ExOps.calcE tOk rfl rfl (by first | exact eqT (by omega) | exact eqF (by omega) | fail) ?_) | (refine ExOps.gBin ?_; refine ExOps.calcE tOk rfl rfl (by first | exact eqT rfl | exact eqF (fun h => h rfl) | exact beqT _ | exact wrapB _ _ | exact wrapE (by omega) (by omega) | exact wrapE32 (by omega) (by omega) | fail) ?_) | (refine ExOps.gB ?_; refine ExOps.calcE tOk rfl rfl (by conv => lhs; simp [pev, upd, PV.cells, argSlots]) ?_) | refine ExOps.calcE tOk rfl rfl (by conv => lhs; whnf) ?_)
    | (refine QSeq.g ?_; first | refine QSeq.norm ?_ | refine QSeq.ret ?_ | refine QSeq.exit ?_)
    | (refine QBlock.g ?_; first | refine QBlock.norm ?_ | refine QBlock.ret ?_ | refine QBlock.hit rfl ?_ | refine QBlock.miss rfl ?_)
    | (refine QLoop.g ?_; first | refine QLoop.ret ?_ | refine QLoop.exit ?_)
    | (refine QRet.g ?_; (first | ((first | refine QRet.end_ (.cons (.tmpE (by conv => lhs; whnf)) .nil) ?_ | refine QRet.endN (.cons (.tmpE (by conv => lhs; whnf)) .nil) ?_); try (focus first | rfl | (simp_all [packP]; done))) | ((first | refine QRet.same (.cons (.tmpE (by conv => lhs; whnf)) .nil) ?_ ?_ | refine QRet.sameN (.cons (.tmpE (by conv => lhs; whnf)) .nil) ?_ ?_); try (rotate_left; (focus first | rfl | (simp_all [packP]; done)); try (focus first | rfl | (simp_all [packP]; done))))))
    | fail)
  refine Ex.loop (fun m s σ => ∃ j : Nat, (m + j = 2) ∧ s 0 = ndv k s0 (.slc [a.pv, b.pv] 2) ∧ s 15 = .ful [.func f [] [], .func f [] []] 2 ∧ s 16 = .int .i64 2 ∧ s 17 = .int .i64 j ∧ σ = []) (2) ⟨0, (by first | rfl | assumption | omega | exact slot_check rfl | (simp; done) | (simp; omega) | fail), (by first | rfl | assumption | omega | exact slot_check rfl | (simp; done) | (simp; omega) | fail), (by first | rfl | assumption | omega | exact slot_check rfl | (simp; done) | (simp; omega) | fail), (by first | rfl | assumption | omega | exact slot_check rfl | (simp; done) | (simp; omega) | fail), (by first | rfl | assumption | omega | exact slot_check rfl | (simp; done) | (simp; omega) | fail), rfl⟩ ?_
  rintro m s σ ⟨j, hi0, h0, h15, h16, h17, rfl⟩
  refine (Ex.have_ (t := 0) h0 (Ex.have_ (t := 15) h15 (Ex.have_ (t := 16) h16 (Ex.have_ (t := 17) h17 ?_))))
  rcases (show j = 0 ∨ j = 1 ∨ j = 2 by omega) with rfl | rfl | rfl
  · repeat' (first
      | (refine Ex.g ?_; first | refine Ex.seq ?_ | refine Ex.region ?_ | refine Ex.skip ?_ | refine Ex.ret ?_ | refine Ex.exit ?_ | refine Ex.block ?_ | (refine Ex.gCond ?_; first | refine Ex.condT rfl ?_ | refine Ex.condF rfl ?_ | refine Ex.condD rfl (fun hc => ?_) (fun hc => ?_) | refine Ex.condN rfl (fun hc => ?_) (fun hc => ?_) | refine Ex.cond rfl (fun hc => ?_) (fun hc => ?_)))
      | refine ExOps.nil ?_
      | (refine ExOps.gPC ?_; first | refine ExOps.opR (OpOk.len tOk rfl rfl rfl) rfl ?_ | refine ExOps.opR (.cp rfl rfl rfl (h := ha)) rfl ?_)
      | (refine ExOps.gP ?_; first | (refine ExOps.gBin ?_; refine ExOps.calcE tOk rfl rfl (by first | exact eqT (by omega) | exact eqF (by omega) | fail) ?_) | (refine ExOps.gBin ?_; refine ExOps.calcE tOk rfl rfl (by first | exact eqT rfl | exact eqF (fun h => h rfl) | exact beqT _ | exact wrapB _ _ | exact wrapE (by omega) (by omega) | exact wrapE32 (by omega) (by omega) | fail) ?_) | (refine ExOps.gB ?_; refine ExOps.calcE tOk rfl rfl (by conv => lhs; simp [pev, upd, PV.cells, argSlots]) ?_) | refine ExOps.calcE tOk rfl rfl (by conv => lhs; whnf) ?_ | refine ExOps.opR (OpOk.indexAddrE tOk rfl rfl rfl rfl rfl rfl (by omega) (by omega) rfl) rfl ?_)
      | (refine QSeq.g ?_; first | refine QSeq.norm ?_ | refine QSeq.ret ?_ | refine QSeq.exit ?_)
      | (refine QBlock.g ?_; first | refine QBlock.norm ?_ | refine QBlock.ret ?_ | refine QBlock.hit rfl ?_ | refine QBlock.miss rfl ?_)
      | (refine QLoop.g ?_; first | refine QLoop.ret ?_ | refine QLoop.exit ?_)
      | (refine QRet.g ?_; (first | ((first | refine QRet.end_ (.cons (.tmpE (by conv => lhs; whnf)) .nil) ?_ | refine QRet.endN (.cons (.tmpE (by conv => lhs; whnf)) .nil) ?_); try (focus first | rfl | (simp_all [packP]; done))) | ((first | refine QRet.same (.cons (.tmpE (by conv => lhs; whnf)) .nil) ?_ ?_ | refine QRet.sameN (.cons (.tmpE (by conv => lhs; whnf)) .nil) ?_ ?_); try (rotate_left; (focus first | rfl | (simp_all [packP]; done)); try (focus first | rfl | (simp_all [packP]; done))))))
      | fail)
    exact QLoop.next (m - 1) (by omega) ⟨1, by omega, rfl, rfl, rfl, rfl, rfl⟩
  · repeat' (first
      | (refine Ex.g ?_; first | refine Ex.seq ?_ | refine Ex.region ?_ | refine Ex.skip ?_ | refine Ex.ret ?_ | refine Ex.exit ?_ | refine Ex.block ?_ | (refine Ex.gCond ?_; first | refine Ex.condT rfl ?_ | refine Ex.condF rfl ?_ | refine Ex.condD rfl (fun hc => ?_) (fun hc => ?_) | refine Ex.condN rfl (fun hc => ?_) (fun hc => ?_) | refine Ex.cond rfl (fun hc => ?_) (fun hc => ?_)))
      | refine ExOps.nil ?_
      | (refine ExOps.gPC ?_; first | refine ExOps.opR (OpOk.len tOk rfl rfl rfl) rfl ?_ | refine ExOps.opR (.cp rfl rfl rfl (h := hb)) rfl ?_)
      | (refine ExOps.gP ?_; first | (refine ExOps.gBin ?_; refine ExOps.calcE tOk rfl rfl (by first | exact eqT (by omega) | exact eqF (by omega) | fail) ?_) | (refine ExOps.gBin ?_; refine ExOps.calcE tOk rfl rfl (by first | exact eqT rfl | exact eqF (fun h => h rfl) | exact beqT _ | exact wrapB _ _ | exact wrapE (by omega) (by omega) | exact wrapE32 (by omega) (by omega) | fail) ?_) | (refine ExOps.gB ?_; refine ExOps.calcE tOk rfl rfl (by conv => lhs; simp [pev, upd, PV.cells, argSlots]) ?_) | refine ExOps.calcE tOk rfl rfl (by conv => lhs; whnf) ?_ | refine ExOps.opR (OpOk.indexAddrE tOk rfl rfl rfl rfl rfl rfl (by omega) (by omega) rfl) rfl ?_)
      | (refine QSeq.g ?_; first | refine QSeq.norm ?_ | refine QSeq.ret ?_ | refine QSeq.exit ?_)
      | (refine QBlock.g ?_; first | refine QBlock.norm ?_ | refine QBlock.ret ?_ | refine QBlock.hit rfl ?_ | refine QBlock.miss rfl ?_)
      | (refine QLoop.g ?_; first | refine QLoop.ret ?_ | refine QLoop.exit ?_)
      | (refine QRet.g ?_; (first | ((first | refine QRet.end_ (.cons (.tmpE (by conv => lhs; whnf)) .nil) ?_ | refine QRet.endN (.cons (.tmpE (by conv => lhs; whnf)) .nil) ?_); try (focus first | rfl | (simp_all [packP]; done))) | ((first | refine QRet.same (.cons (.tmpE (by conv => lhs; whnf)) .nil) ?_ ?_ | refine QRet.sameN (.cons (.tmpE (by conv => lhs; whnf)) .nil) ?_ ?_); try (rotate_left; (focus first | rfl | (simp_all [packP]; done)); try (focus first | rfl | (simp_all [packP]; done))))))
      | fail)
    exact QLoop.next (m - 1) (by omega) ⟨2, by omega, rfl, rfl, rfl, rfl, rfl⟩
  · repeat' (first
      | (refine Ex.g ?_; first | refine Ex.seq ?_ | refine Ex.region ?_ | refine Ex.skip ?_ | refine Ex.ret ?_ | refine Ex.exit ?_ | refine Ex.block ?_ | (refine Ex.gCond ?_; first | refine Ex.condT rfl ?_ | refine Ex.condF rfl ?_ | refine Ex.condD rfl (fun hc => ?_) (fun hc => ?_) | refine Ex.condN rfl (fun hc => ?_) (fun hc => ?_) | refine Ex.cond rfl (fun hc => ?_) (fun hc => ?_)))
      | refine ExOps.nil ?_
      | (refine ExOps.gPC ?_; first | refine ExOps.opR (OpOk.len tOk rfl rfl rfl) rfl ?_)
      | (refine ExOps.gP ?_; first | (refine ExOps.gBin ?_; refine ExOps.calcE tOk rfl rfl (by first | exact eqT (by omega) | exact eqF (by omega) | fail) ?_) | (refine ExOps.gB ?_; refine ExOps.calcE tOk rfl rfl (by conv => lhs; simp [pev, upd, PV.cells, argSlots]) ?_) | refine ExOps.calcE tOk rfl rfl (by conv => lhs; whnf) ?_)
      | (refine QSeq.g ?_; first | refine QSeq.norm ?_ | refine QSeq.ret ?_ | refine QSeq.exit ?_)
      | (refine QBlock.g ?_; first | refine QBlock.norm ?_ | refine QBlock.ret ?_ | refine QBlock.hit rfl ?_ | refine QBlock.miss rfl ?_)
      | (refine QLoop.g ?_; first | refine QLoop.ret ?_ | refine QLoop.exit ?_)
      | (refine QRet.g ?_; (first | ((first | refine QRet.end_ (.cons (.tmpE (by conv => lhs; whnf)) .nil) ?_ | refine QRet.endN (.cons (.tmpE (by conv => lhs; whnf)) .nil) ?_); try (focus first | rfl | (rfl; done))) | ((first | refine QRet.same (.cons (.tmpE (by conv => lhs; whnf)) .nil) ?_ ?_ | refine QRet.sameN (.cons (.tmpE (by conv => lhs; whnf)) .nil) ?_ ?_); try (rotate_left; (focus first | rfl | (rfl; done)); try (focus first | rfl | (rfl; done))))))
      | fail)
theorem isType_word (k : Int) (h : k = 1 ∨ k = 2) : Callable Tryz.prog 40 [ndv k ⟨#[]⟩ (.slc [] 0)] [] (Ret (.bool true) []) := by
  rcases h with rfl | rfl
  all_goals
    refine Callable.of_ex tOk [.tmp 2] Tryz.func40 rfl rfl rfl (Nat.le_of_ble_eq_true rfl) ?_
    repeat' (first
      | (refine Ex.g ?_; first | refine Ex.seq ?_ | refine Ex.region ?_ | refine Ex.skip ?_ | refine Ex.ret ?_ | refine Ex.exit ?_ | refine Ex.block ?_ | (refine Ex.gCond ?_; first | refine Ex.condT rfl ?_ | refine Ex.condF rfl ?_ | refine Ex.condD rfl (fun hc => ?_) (fun hc => ?_) | refine Ex.condN rfl (fun hc => ?_) (fun hc => ?_) | refine Ex.cond rfl (fun hc => ?_) (fun hc => ?_)))
      | refine ExOps.nil ?_
      | (refine ExOps.gPC ?_; first | refine ExOps.opR (OpOk.len tOk rfl rfl rfl) rfl ?_ | refine ExOps.opR (.cp rfl rfl rfl (h := bare_no _ [] 0)) rfl ?_ | refine ExOps.opR (.cp rfl rfl rfl (h := kids_none _ ⟨#[]⟩)) rfl ?_)
      | (refine ExOps.gP ?_; first | (refine ExOps.gB ?_; refine ExOps.calcE tOk rfl rfl (by conv => lhs; simp [pev, upd, PV.cells, argSlots]) ?_) | refine ExOps.calcE tOk rfl rfl (by conv => lhs; whnf) ?_)
      | (refine ExOps.gG ?_; first | (refine ExOps.gIn rfl rfl ?_; first | (refine ExOps.gGC ?_; first | refine ExOps.opRG rfl rfl rfl (OpOk.len tOk rfl rfl rfl) rfl ?_ | refine ExOps.opRG rfl rfl rfl (.cp rfl rfl rfl (h := bare_no _ [] 0)) rfl ?_ | refine ExOps.opRG rfl rfl rfl (.cp rfl rfl rfl (h := kids_none _ ⟨#[]⟩)) rfl ?_) | (first | refine ExOps.calcGE tOk rfl rfl rfl rfl rfl (by conv => lhs; whnf) ?_)) | refine ExOps.skipGU rfl rfl rfl rfl ?_ | refine ExOps.skipU rfl rfl rfl ?_ | (refine ExOps.gAnd2 ?_; refine' ExOps.and2 tOk rfl rfl rfl rfl rfl rfl rfl (by first | rfl | exact isDec _) (fun hg => ?_) ?_; rotate_left 3) | (refine ExOps.gAnd3 ?_; refine' ExOps.and3 tOk rfl rfl rfl rfl rfl rfl rfl (by first | rfl | exact isDec _) (fun hg => ?_) ?_; rotate_left 3) | (refine ExOps.gAnd5 ?_; refine' ExOps.and5 tOk rfl rfl rfl rfl rfl rfl rfl (by first | rfl | exact isDec _) (fun hg => ?_) ?_; rotate_left 3) | ((fail_if_success refine ExOps.gIn rfl rfl ?_); first | refine ExOps.guardD rfl rfl rfl (fun hg => ?_) (fun hg => ?_) | refine ExOps.guard rfl rfl rfl (fun hg => ?_) (fun hg => ?_)))
      | (refine QSeq.g ?_; first | refine QSeq.norm ?_ | refine QSeq.ret ?_ | refine QSeq.exit ?_)
      | (refine QBlock.g ?_; first | refine QBlock.norm ?_ | refine QBlock.ret ?_ | refine QBlock.hit rfl ?_ | refine QBlock.miss rfl ?_)
      | (refine QRet.g ?_; (first | ((first | refine QRet.end_ (.cons (.tmpE (by conv => lhs; whnf)) .nil) ?_ | refine QRet.endN (.cons (.tmpE (by conv => lhs; whnf)) .nil) ?_); try (focus first | rfl | (rfl; done))) | ((first | refine QRet.same (.cons (.tmpE (by conv => lhs; whnf)) .nil) ?_ ?_ | refine QRet.sameN (.cons (.tmpE (by conv => lhs; whnf)) .nil) ?_ ?_); try (rotate_left; (focus first | rfl | (rfl; done)); try (focus first | rfl | (rfl; done))))))
      | refine ⟨rfl, (by first | rfl | exact isDec _), (by (repeat' (first | exact WkS.refl _ | refine WkS.upd ?_ Wk.junk)); first | done | fail), rfl⟩
      | fail)
theorem isType_name (s0 : ByteArray) (hs : s0.size < 4294967281) (h : longF s0 = true) : Callable Tryz.prog 40 [ndv 4 s0 (.slc [] 0)] [] (Ret (.bool true) []) := by
  have hl := long_ok s0 hs
  rw [h] at hl
  refine Callable.of_ex tOk [.tmp 2] Tryz.func40 rfl rfl rfl (Nat.le_of_ble_eq_true rfl) ?_
  repeat' (first
    | (refine Ex.g ?_; first | refine Ex.seq ?_ | refine Ex.region ?_ | refine Ex.skip ?_ | refine Ex.ret ?_ | refine Ex.exit ?_ | refine Ex.block ?_ | (refine Ex.gCond ?_; first | refine Ex.condT rfl ?_ | refine Ex.condF rfl ?_ | refine Ex.condD rfl (fun hc => ?_) (fun hc => ?_) | refine Ex.condN rfl (fun hc => ?_) (fun hc => ?_) | refine Ex.cond rfl (fun hc => ?_) (fun hc => ?_)))
    | refine ExOps.nil ?_
    | (refine ExOps.gPC ?_; first | refine ExOps.opR (OpOk.len tOk rfl rfl rfl) rfl ?_ | refine ExOps.opR (.cp rfl rfl rfl (h := bare_name 4 s0 [] 0)) rfl ?_ | refine ExOps.opR (.cp rfl rfl rfl (h := kids_none 4 s0)) rfl ?_ | refine ExOps.opR (.cp rfl rfl rfl (h := hl)) rfl ?_)
    | (refine ExOps.gP ?_; first | (refine ExOps.gB ?_; refine ExOps.calcE tOk rfl rfl (by conv => lhs; simp [pev, upd, PV.cells, argSlots]) ?_) | refine ExOps.calcE tOk rfl rfl (by conv => lhs; whnf) ?_)
    | (refine ExOps.gG ?_; first | (refine ExOps.gIn rfl rfl ?_; first | (refine ExOps.gGC ?_; first | refine ExOps.opRG rfl rfl rfl (OpOk.len tOk rfl rfl rfl) rfl ?_ | refine ExOps.opRG rfl rfl rfl (.cp rfl rfl rfl (h := bare_name 4 s0 [] 0)) rfl ?_ | refine ExOps.opRG rfl rfl rfl (.cp rfl rfl rfl (h := kids_none 4 s0)) rfl ?_ | refine ExOps.opRG rfl rfl rfl (.cp rfl rfl rfl (h := hl)) rfl ?_) | (first | refine ExOps.calcGE tOk rfl rfl rfl rfl rfl (by conv => lhs; whnf) ?_)) | refine ExOps.skipGU rfl rfl rfl rfl ?_ | refine ExOps.skipU rfl rfl rfl ?_ | (refine ExOps.gAnd2 ?_; refine' ExOps.and2 tOk rfl rfl rfl rfl rfl rfl rfl (by first | rfl | exact isDec _) (fun hg => ?_) ?_; rotate_left 3) | (refine ExOps.gAnd3 ?_; refine' ExOps.and3 tOk rfl rfl rfl rfl rfl rfl rfl (by first | rfl | exact isDec _) (fun hg => ?_) ?_; rotate_left 3) | (refine ExOps.gAnd5 ?_; refine' ExOps.and5 tOk rfl rfl rfl rfl rfl rfl rfl (by first | rfl | exact isDec _) (fun hg => ?_) ?_; rotate_left 3) | ((fail_if_success refine ExOps.gIn rfl rfl ?_); first | refine ExOps.guardD rfl rfl rfl (fun hg => ?_) (fun hg => ?_) | refine ExOps.guard rfl rfl rfl (fun hg => ?_) (fun hg => ?_)))
    | (refine QSeq.g ?_; first | refine QSeq.norm ?_ | refine QSeq.ret ?_ | refine QSeq.exit ?_)
    | (refine QBlock.g ?_; first | refine QBlock.norm ?_ | refine QBlock.ret ?_ | refine QBlock.hit rfl ?_ | refine QBlock.miss rfl ?_)
    | (refine QRet.g ?_; (first | ((first | refine QRet.end_ (.cons (.tmpE (by conv => lhs; whnf)) .nil) ?_ | refine QRet.endN (.cons (.tmpE (by conv => lhs; whnf)) .nil) ?_); try (focus first | rfl | (rfl; done))) | ((first | refine QRet.same (.cons (.tmpE (by conv => lhs; whnf)) .nil) ?_ ?_ | refine QRet.sameN (.cons (.tmpE (by conv => lhs; whnf)) .nil) ?_ ?_); try (rotate_left; (focus first | rfl | (rfl; done)); try (focus first | rfl | (rfl; done))))))
    | refine ⟨rfl, (by first | rfl | exact isDec _), (by (repeat' (first | exact WkS.refl _ | refine WkS.upd ?_ Wk.junk)); first | done | fail), rfl⟩
    | fail)
theorem isType_two (k : Int) (hk : k = 5 ∨ k = 6) (a b : Tree) (ha : Callable Tryz.prog 40 [a.pv] [] (Ret (.bool true) [])) (hb : Callable Tryz.prog 40 [b.pv] [] (Ret (.bool true) [])) : Callable Tryz.prog 40 [ndv k ⟨#[]⟩ (.slc [a.pv, b.pv] 2)] [] (Ret (.bool true) []) := by
  rcases hk with rfl | rfl
  all_goals
    refine Callable.of_ex tOk [.tmp 2] Tryz.func40 rfl rfl rfl (Nat.le_of_ble_eq_true rfl) ?_
    repeat' (first
      | (refine Ex.g ?_; first | refine Ex.seq ?_ | refine Ex.region ?_ | refine Ex.skip ?_ | refine Ex.ret ?_ | refine Ex.exit ?_ | refine Ex.block ?_ | (refine Ex.gCond ?_; first | refine Ex.condT rfl ?_ | refine Ex.condF rfl ?_ | refine Ex.condD rfl (fun hc => ?_) (fun hc => ?_) | refine Ex.condN rfl (fun hc => ?_) (fun hc => ?_) | refine Ex.cond rfl (fun hc => ?_) (fun hc => ?_)))
      | refine ExOps.nil ?_
      | (refine ExOps.gPC ?_; first | refine ExOps.opR (OpOk.len tOk rfl rfl rfl) rfl ?_ | refine ExOps.opR (.cp rfl rfl rfl (h := bare_no _ [a.pv, b.pv] 2)) rfl ?_ | refine ExOps.opR (.cp rfl rfl rfl (h := kids_two _ ⟨#[]⟩ a b _ ha hb)) rfl ?_)
      | (refine ExOps.gP ?_; first | (refine ExOps.gB ?_; refine ExOps.calcE tOk rfl rfl (by conv => lhs; simp [pev, upd, PV.cells, argSlots]) ?_) | refine ExOps.calcE tOk rfl rfl (by conv => lhs; whnf) ?_ | refine ExOps.opR (OpOk.bs2 tOk rfl rfl rfl rfl rfl rfl rfl rfl rfl rfl) rfl ?_)
      | (refine ExOps.gG ?_; first | (refine ExOps.gIn rfl rfl ?_; first | (refine ExOps.gGC ?_; first | refine ExOps.opRG rfl rfl rfl (OpOk.len tOk rfl rfl rfl) rfl ?_ | refine ExOps.opRG rfl rfl rfl (.cp rfl rfl rfl (h := bare_no _ [a.pv, b.pv] 2)) rfl ?_ | refine ExOps.opRG rfl rfl rfl (.cp rfl rfl rfl (h := kids_two _ ⟨#[]⟩ a b _ ha hb)) rfl ?_) | (first | refine ExOps.calcGE tOk rfl rfl rfl rfl rfl (by conv => lhs; whnf) ?_ | refine ExOps.opRG rfl rfl rfl (OpOk.bs2 tOk rfl rfl rfl rfl rfl rfl rfl rfl rfl rfl) rfl ?_)) | refine ExOps.skipGU rfl rfl rfl rfl ?_ | refine ExOps.skipU rfl rfl rfl ?_ | (refine ExOps.gAnd2 ?_; refine' ExOps.and2 tOk rfl rfl rfl rfl rfl rfl rfl (by first | rfl | exact isDec _) (fun hg => ?_) ?_; rotate_left 3) | (refine ExOps.gAnd3 ?_; refine' ExOps.and3 tOk rfl rfl rfl rfl rfl rfl rfl (by first | rfl | exact isDec _) (fun hg => ?_) ?_; rotate_left 3) | (refine ExOps.gAnd5 ?_; refine' ExOps.and5 tOk rfl rfl rfl rfl rfl rfl rfl (by first | rfl | exact isDec _) (fun hg => ?_) ?_; rotate_left 3) | ((fail_if_success refine ExOps.gIn rfl rfl ?_); first | refine ExOps.guardD rfl rfl rfl (fun hg => ?_) (fun hg => ?_) | refine ExOps.guard rfl rfl rfl (fun hg => ?_) (fun hg => ?_)))
      | (refine QSeq.g ?_; first | refine QSeq.norm ?_ | refine QSeq.ret ?_ | refine QSeq.exit ?_)
      | (refine QBlock.g ?_; first | refine QBlock.norm ?_ | refine QBlock.ret ?_ | refine QBlock.hit rfl ?_ | refine QBlock.miss rfl ?_)
      | (refine QRet.g ?_; (first | ((first | refine QRet.end_ (.cons (.tmpE (by conv => lhs; whnf)) .nil) ?_ | refine QRet.endN (.cons (.tmpE (by conv => lhs; whnf)) .nil) ?_); try (focus first | rfl | (rfl; done))) | ((first | refine QRet.same (.cons (.tmpE (by conv => lhs; whnf)) .nil) ?_ ?_ | refine QRet.sameN (.cons (.tmpE (by conv => lhs; whnf)) .nil) ?_ ?_); try (rotate_left; (focus first | rfl | (rfl; done)); try (focus first | rfl | (rfl; done))))))
      | refine ⟨rfl, (by first | rfl | exact isDec _), (by (repeat' (first | exact WkS.refl _ | refine WkS.upd ?_ Wk.junk)); first | done | fail), rfl⟩
      | fail)
theorem paren_no (s0 : ByteArray) : Callable Tryz.prog 41 [.bool false, .str s0] [] (Ret (.str s0) []) := by
  refine Callable.of_ex tOk [.tmp 4] Tryz.func41 rfl rfl rfl (Nat.le_of_ble_eq_true rfl) ?_
  repeat' (first
    | (refine Ex.g ?_; first | refine Ex.seq ?_ | refine Ex.region ?_ | refine Ex.skip ?_ | refine Ex.ret ?_ | refine Ex.exit ?_ | (refine Ex.gCond ?_; first | refine Ex.condT rfl ?_ | refine Ex.condF rfl ?_ | refine Ex.condD rfl (fun hc => ?_) (fun hc => ?_) | refine Ex.condN rfl (fun hc => ?_) (fun hc => ?_) | refine Ex.cond rfl (fun hc => ?_) (fun hc => ?_)))
    | refine ExOps.nil ?_
    | (refine ExOps.gPC ?_; first | refine ExOps.opR (OpOk.len tOk rfl rfl rfl) rfl ?_)
    | (refine ExOps.gP ?_; first | (refine ExOps.gB ?_; refine ExOps.calcE tOk rfl rfl (by conv => lhs; simp [pev, upd, PV.cells, argSlots]) ?_) | refine ExOps.calcE tOk rfl rfl (by conv => lhs; whnf) ?_)
    | (refine QSeq.g ?_; first | refine QSeq.norm ?_ | refine QSeq.ret ?_ | refine QSeq.exit ?_)
    | (refine QRet.g ?_; (first | ((first | refine QRet.end_ (.cons (.tmpE (by conv => lhs; whnf)) .nil) ?_ | refine QRet.endN (.cons (.tmpE (by conv => lhs; whnf)) .nil) ?_); try (focus first | rfl | (rfl; done))) | ((first | refine QRet.same (.cons (.tmpE (by conv => lhs; whnf)) .nil) ?_ ?_ | refine QRet.sameN (.cons (.tmpE (by conv => lhs; whnf)) .nil) ?_ ?_); try (rotate_left; (focus first | rfl | (rfl; done)); try (focus first | rfl | (rfl; done))))))
    | fail)
theorem write_word (k lvl : Int) (h : k = 1 ∨ k = 2) : Callable Tryz.prog 25 [ndv k ⟨#[]⟩ (.slc [] 0), .int .i64 lvl] [] (Ret (.str (if k = 1 then b_int else b_bool)) []) := by
  rcases h with rfl | rfl
  all_goals
    refine Callable.of_ex tOk [.tmp 4] Tryz.func25 rfl rfl rfl (Nat.le_of_ble_eq_true rfl) ?_
    repeat' (first
      | (refine Ex.g ?_; first | refine Ex.seq ?_ | refine Ex.region ?_ | refine Ex.drawR mixed (by kernel_rfl) ?_ | refine Ex.skip ?_ | refine Ex.ret ?_ | refine Ex.exit ?_ | refine Ex.block ?_ | (refine Ex.gCond ?_; first | refine Ex.condT rfl ?_ | refine Ex.condF rfl ?_ | refine Ex.condD rfl (fun hc => ?_) (fun hc => ?_) | refine Ex.condN rfl (fun hc => ?_) (fun hc => ?_) | refine Ex.cond rfl (fun hc => ?_) (fun hc => ?_)))
      | refine ExOps.nil ?_
      | (refine ExOps.gPC ?_; first | refine ExOps.opR (OpOk.len tOk rfl rfl rfl) rfl ?_)
      | (refine ExOps.gP ?_; first | (refine ExOps.gB ?_; refine ExOps.calcE tOk rfl rfl (by conv => lhs; simp [pev, upd, PV.cells, argSlots]) ?_) | refine ExOps.calcE tOk rfl rfl (by conv => lhs; whnf) ?_)
      | refine DRd.nil ?_
      | (refine DRd.gPC ?_; first | refine DRd.opR (OpOk.len tOk rfl rfl rfl) rfl ?_)
      | (refine DRd.gP ?_; first | refine DRd.calcE tOk rfl rfl (by conv => lhs; whnf) ?_)
      | (refine QSeq.g ?_; first | refine QSeq.norm ?_ | refine QSeq.ret ?_ | refine QSeq.exit ?_)
      | (refine QBlock.g ?_; first | refine QBlock.norm ?_ | refine QBlock.ret ?_ | refine QBlock.hit rfl ?_ | refine QBlock.miss rfl ?_)
      | (refine QLoop.g ?_; first | refine QLoop.ret ?_ | refine QLoop.exit ?_)
      | (refine QRet.g ?_; (first | ((first | refine QRet.end_ (.cons (.tmpE (by conv => lhs; whnf)) .nil) ?_ | refine QRet.endN (.cons (.tmpE (by conv => lhs; whnf)) .nil) ?_); try (focus first | rfl | (rfl; done))) | ((first | refine QRet.same (.cons (.tmpE (by conv => lhs; whnf)) .nil) ?_ ?_ | refine QRet.sameN (.cons (.tmpE (by conv => lhs; whnf)) .nil) ?_ ?_); try (rotate_left; (focus first | rfl | (rfl; done)); try (focus first | rfl | (rfl; done))))))
      | fail)
theorem write_name (s0 : ByteArray) (lvl : Int) : Callable Tryz.prog 25 [ndv 4 s0 (.slc [] 0), .int .i64 lvl] [] (Ret (.str s0) []) := by
  refine Callable.of_ex tOk [.tmp 4] Tryz.func25 rfl rfl rfl (Nat.le_of_ble_eq_true rfl) ?_
  repeat' (first
    | (refine Ex.g ?_; first | refine Ex.seq ?_ | refine Ex.region ?_ | refine Ex.drawR mixed (by kernel_rfl) ?_ | refine Ex.skip ?_ | refine Ex.ret ?_ | refine Ex.exit ?_ | refine Ex.block ?_ | (refine Ex.gCond ?_; first | refine Ex.condT rfl ?_ | refine Ex.condF rfl ?_ | refine Ex.condD rfl (fun hc => ?_) (fun hc => ?_) | refine Ex.condN rfl (fun hc => ?_) (fun hc => ?_) | refine Ex.cond rfl (fun hc => ?_) (fun hc => ?_)))
    | refine ExOps.nil ?_
    | (refine ExOps.gPC ?_; first | refine ExOps.opR (OpOk.len tOk rfl rfl rfl) rfl ?_)
    | (refine ExOps.gP ?_; first | (refine ExOps.gB ?_; refine ExOps.calcE tOk rfl rfl (by conv => lhs; simp [pev, upd, PV.cells, argSlots]) ?_) | refine ExOps.calcE tOk rfl rfl (by conv => lhs; whnf) ?_)
    | refine DRd.nil ?_
    | (refine DRd.gPC ?_; first | refine DRd.opR (OpOk.len tOk rfl rfl rfl) rfl ?_)
    | (refine DRd.gP ?_; first | refine DRd.calcE tOk rfl rfl (by conv => lhs; whnf) ?_)
    | (refine QSeq.g ?_; first | refine QSeq.norm ?_ | refine QSeq.ret ?_ | refine QSeq.exit ?_)
    | (refine QBlock.g ?_; first | refine QBlock.norm ?_ | refine QBlock.ret ?_ | refine QBlock.hit rfl ?_ | refine QBlock.miss rfl ?_)
    | (refine QLoop.g ?_; first | refine QLoop.ret ?_ | refine QLoop.exit ?_)
    | (refine QRet.g ?_; (first | ((first | refine QRet.end_ (.cons (.tmpE (by conv => lhs; whnf)) .nil) ?_ | refine QRet.endN (.cons (.tmpE (by conv => lhs; whnf)) .nil) ?_); try (focus first | rfl | (rfl; done))) | ((first | refine QRet.same (.cons (.tmpE (by conv => lhs; whnf)) .nil) ?_ ?_ | refine QRet.sameN (.cons (.tmpE (by conv => lhs; whnf)) .nil) ?_ ?_); try (rotate_left; (focus first | rfl | (rfl; done)); try (focus first | rfl | (rfl; done))))))
    | fail)
abbrev b_sarrow : ByteArray := ⟨#[32, 45, 62, 32]⟩
abbrev b_sstar : ByteArray := ⟨#[32, 42, 32]⟩
theorem write_arrow (a b : Tree) (sa sb : ByteArray) (hsa : sa.size ≤ 1000) (hsb : sb.size ≤ 1000) (ha : Callable Tryz.prog 25 [a.pv, .int .i64 1] [] (Ret (.str sa) [])) (hb : Callable Tryz.prog 25 [b.pv, .int .i64 0] [] (Ret (.str sb) [])) :
    Callable Tryz.prog 25 [ndv 5 ⟨#[]⟩ (.slc [a.pv, b.pv] 2), .int .i64 0] [] (Ret (.str (sa ++ b_sarrow ++ sb)) []) := by
  have h4 : (⟨#[32, 45, 62, 32]⟩ : ByteArray).size = 4 := rfl
  refine Callable.of_ex tOk [.tmp 4] Tryz.func25 rfl rfl rfl (Nat.le_of_ble_eq_true rfl) ?_
  repeat' (first
    | (refine Ex.g ?_; first | refine Ex.seq ?_ | refine Ex.region ?_ | refine Ex.drawR mixed (by kernel_rfl) ?_ | refine Ex.skip ?_ | refine Ex.ret ?_ | refine Ex.exit ?_ | refine Ex.block ?_ | (refine Ex.gCond ?_; first | refine Ex.condT rfl ?_ | refine Ex.condF rfl ?_ | refine Ex.condD rfl (fun hc => ?_) (fun hc => ?_) | refine Ex.condN rfl (fun hc => ?_) (fun hc => ?_) | refine Ex.cond rfl (fun hc => ?_) (fun hc => ?_)))
    | refine ExOps.nil ?_
    | (refine ExOps.gPC ?_; first | refine ExOps.opR (OpOk.len tOk rfl rfl rfl) rfl ?_ | refine ExOps.opR (.cp rfl rfl rfl (h := ha)) rfl ?_ | refine ExOps.opR (.cp rfl rfl rfl (h := hb)) rfl ?_ | refine ExOps.opR (.cp rfl rfl rfl (h := paren_no _)) rfl ?_)
    | (refine ExOps.gP ?_; first | (refine ExOps.gBin ?_; refine ExOps.calcE tOk rfl rfl (by first | exact eqT (by omega) | exact eqF (by omega) | fail) ?_) | (refine ExOps.gB ?_; refine ExOps.calcE tOk rfl rfl (by conv => lhs; simp [pev, upd, PV.cells, argSlots]) ?_) | refine ExOps.calcE tOk rfl rfl (by conv => lhs; whnf) ?_ | refine ExOps.opR (OpOk.indexAddrE tOk rfl rfl rfl rfl rfl rfl (by omega) (by omega) rfl) rfl ?_ | refine ExOps.opR (OpOk.strAdd rfl rfl rfl (by (try simp only [ByteArray.size_append]); omega)) rfl ?_)
    | refine DRd.nil ?_
    | (refine DRd.gPC ?_; first | refine DRd.opR (OpOk.len tOk rfl rfl rfl) rfl ?_ | refine DRd.opR (.cp rfl rfl rfl (h := ha)) rfl ?_ | refine DRd.opR (.cp rfl rfl rfl (h := hb)) rfl ?_ | refine DRd.opR (.cp rfl rfl rfl (h := paren_no _)) rfl ?_)
    | (refine DRd.gP ?_; first | (refine DRd.gBin ?_; refine DRd.calcE tOk rfl rfl (by first | exact eqT (by omega) | exact eqF (by omega) | fail) ?_) | refine DRd.calcE tOk rfl rfl (by conv => lhs; whnf) ?_ | refine DRd.opR (OpOk.indexAddrE tOk rfl rfl rfl rfl rfl rfl (by omega) (by omega) rfl) rfl ?_ | refine DRd.opR (OpOk.strAdd rfl rfl rfl (by (try simp only [ByteArray.size_append]); omega)) rfl ?_)
    | (refine QSeq.g ?_; first | refine QSeq.norm ?_ | refine QSeq.ret ?_ | refine QSeq.exit ?_)
    | (refine QBlock.g ?_; first | refine QBlock.norm ?_ | refine QBlock.ret ?_ | refine QBlock.hit rfl ?_ | refine QBlock.miss rfl ?_)
    | (refine QLoop.g ?_; first | refine QLoop.ret ?_ | refine QLoop.exit ?_)
    | (refine QRet.g ?_; (first | ((first | refine QRet.end_ (.cons (.tmpE (by conv => lhs; whnf)) .nil) ?_ | refine QRet.endN (.cons (.tmpE (by conv => lhs; whnf)) .nil) ?_); try (focus first | rfl | (rfl; done))) | ((first | refine QRet.same (.cons (.tmpE (by conv => lhs; whnf)) .nil) ?_ ?_ | refine QRet.sameN (.cons (.tmpE (by conv => lhs; whnf)) .nil) ?_ ?_); try (rotate_left; (focus first | rfl | (rfl; done)); try (focus first | rfl | (rfl; done))))))
    | fail)
theorem write_pair (a b : Tree) (sa sb : ByteArray) (hsa : sa.size ≤ 1000) (hsb : sb.size ≤ 1000) (ha : Callable Tryz.prog 25 [a.pv, .int .i64 2] [] (Ret (.str sa) [])) (hb : Callable Tryz.prog 25 [b.pv, .int .i64 1] [] (Ret (.str sb) [])) :
    Callable Tryz.prog 25 [ndv 6 ⟨#[]⟩ (.slc [a.pv, b.pv] 2), .int .i64 1] [] (Ret (.str (sa ++ b_sstar ++ sb)) []) := by
  have h4 : (⟨#[32, 42, 32]⟩ : ByteArray).size = 3 := rfl
  refine Callable.of_ex tOk [.tmp 4] Tryz.func25 rfl rfl rfl (Nat.le_of_ble_eq_true rfl) ?_
  repeat' (first
    | (refine Ex.g ?_; first | refine Ex.seq ?_ | refine Ex.region ?_ | refine Ex.drawR mixed (by kernel_rfl) ?_ | refine Ex.skip ?_ | refine Ex.ret ?_ | refine Ex.exit ?_ | refine Ex.block ?_ | (refine Ex.gCond ?_; first | refine Ex.condT rfl ?_ | refine Ex.condF rfl ?_ | refine Ex.condD rfl (fun hc => ?_) (fun hc => ?_) | refine Ex.condN rfl (fun hc => ?_) (fun hc => ?_) | refine Ex.cond rfl (fun hc => ?_) (fun hc => ?_)))
    | refine ExOps.nil ?_
    | (refine ExOps.gPC ?_; first | refine ExOps.opR (OpOk.len tOk rfl rfl rfl) rfl ?_ | refine ExOps.opR (.cp rfl rfl rfl (h := ha)) rfl ?_ | refine ExOps.opR (.cp rfl rfl rfl (h := hb)) rfl ?_ | refine ExOps.opR (.cp rfl rfl rfl (h := paren_no _)) rfl ?_)
    | (refine ExOps.gP ?_; first | (refine ExOps.gBin ?_; refine ExOps.calcE tOk rfl rfl (by first | exact eqT (by omega) | exact eqF (by omega) | fail) ?_) | (refine ExOps.gB ?_; refine ExOps.calcE tOk rfl rfl (by conv => lhs; simp [pev, upd, PV.cells, argSlots]) ?_) | refine ExOps.calcE tOk rfl rfl (by conv => lhs; whnf) ?_ | refine ExOps.opR (OpOk.indexAddrE tOk rfl rfl rfl rfl rfl rfl (by omega) (by omega) rfl) rfl ?_ | refine ExOps.opR (OpOk.strAdd rfl rfl rfl (by (try simp only [ByteArray.size_append]); omega)) rfl ?_)
    | refine DRd.nil ?_
    | (refine DRd.gPC ?_; first | refine DRd.opR (OpOk.len tOk rfl rfl rfl) rfl ?_ | refine DRd.opR (.cp rfl rfl rfl (h := ha)) rfl ?_ | refine DRd.opR (.cp rfl rfl rfl (h := hb)) rfl ?_ | refine DRd.opR (.cp rfl rfl rfl (h := paren_no _)) rfl ?_)
    | (refine DRd.gP ?_; first | (refine DRd.gBin ?_; refine DRd.calcE tOk rfl rfl (by first | exact eqT (by omega) | exact eqF (by omega) | fail) ?_) | refine DRd.calcE tOk rfl rfl (by conv => lhs; whnf) ?_ | refine DRd.opR (OpOk.indexAddrE tOk rfl rfl rfl rfl rfl rfl (by omega) (by omega) rfl) rfl ?_ | refine DRd.opR (OpOk.strAdd rfl rfl rfl (by (try simp only [ByteArray.size_append]); omega)) rfl ?_)
    | (refine QSeq.g ?_; first | refine QSeq.norm ?_ | refine QSeq.ret ?_ | refine QSeq.exit ?_)
    | (refine QBlock.g ?_; first | refine QBlock.norm ?_ | refine QBlock.ret ?_ | refine QBlock.hit rfl ?_ | refine QBlock.miss rfl ?_)
    | (refine QLoop.g ?_; first | refine QLoop.ret ?_ | refine QLoop.exit ?_)
    | (refine QRet.g ?_; (first | ((first | refine QRet.end_ (.cons (.tmpE (by conv => lhs; whnf)) .nil) ?_ | refine QRet.endN (.cons (.tmpE (by conv => lhs; whnf)) .nil) ?_); try (focus first | rfl | (rfl; done))) | ((first | refine QRet.same (.cons (.tmpE (by conv => lhs; whnf)) .nil) ?_ ?_ | refine QRet.sameN (.cons (.tmpE (by conv => lhs; whnf)) .nil) ?_ ?_); try (rotate_left; (focus first | rfl | (rfl; done)); try (focus first | rfl | (rfl; done))))))
    | fail)
end Go.Proofs.YtceoldiblphahaaGreatDoor
