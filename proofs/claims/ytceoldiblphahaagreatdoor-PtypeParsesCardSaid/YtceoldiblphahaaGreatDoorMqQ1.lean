/- Contracts of the statement's own looks: the same tree, the same trees, few tokens. -/
import Derived.Test.YtceoldiblphahaaGreatDoorMqR9
set_option linter.unusedVariables false
set_option linter.unusedSimpArgs false
set_option linter.unusedSectionVars false
namespace Go.Proofs.YtceoldiblphahaaGreatDoor
open Go.Mq
attribute [local irreducible] Ex ExOps QSeq QBlock QLoop QRet OpOk Callable DEx DRd Melt Wk Tree.pv pvs toks opv strs

attribute [local irreducible] nameF wordF checkF longF keyF nameAt longAt typF productF atomF consF
set_option maxHeartbeats 4000000
section
variable {P : Program} {σ : List Ent}
theorem _root_.Go.Mq.OpOk.min2N {o : Oper} {x y : Operand} {t u : TypeId} (ho : o.op = .call ⟨.builtin .min, #[x, y], #[t, u]⟩) {ρ : Operand → PV} {k k' : IntKind} {a : Nat} (b : Nat) (hx : ρ x = .int k a) (hy : ρ y = .int k' b) : OpOk P o ρ σ (Ret (.int k (min a b : Nat)) σ) := by
  have h := OpOk.min2 (P := P) (σ := σ) ho hx hy
  have e : (if (b : Int) < a then (b : Int) else a) = ((min a b : Nat) : Int) := by split <;> omega
  rwa [e] at h
end

theorem same_ok : ∀ (n : Nat) (t : Tree), t.size ≤ n → n ≤ 4611686018427387904 → Callable Tryz.prog 19 [t.pv, t.pv] [] (Ret (.bool true) [])
  | 0, t, h, _ => by have := size_eq t; omega
  | n + 1, t, h, hn => by
    have ih := fun u (hu : u ∈ t.kids) => same_ok n u (by have := kids_lt hu; omega) (by omega)
    have hsz := size_eq t
    have hll := len_le_sizes t.kids
    rw [pv_eq]
    refine Callable.of_ex tOk [.tmp 4] Tryz.func19 rfl rfl rfl (Nat.le_of_ble_eq_true rfl) ?_
    repeat' (first
      | (refine Ex.g ?_; first | refine Ex.seq ?_ | refine Ex.region ?_ | refine Ex.drawR mixed (by kernel_rfl) ?_ | refine Ex.skip ?_ | refine Ex.ret ?_ | refine Ex.exit ?_ | refine Ex.block ?_ | (refine Ex.gCond ?_; first | refine Ex.condT rfl ?_ | refine Ex.condF rfl ?_ | refine Ex.condD rfl (fun hc => ?_) (fun hc => ?_) | refine Ex.condN rfl (fun hc => ?_) (fun hc => ?_) | refine Ex.cond rfl (fun hc => ?_) (fun hc => ?_)))
      | refine ExOps.nil ?_
      | (refine ExOps.gPC ?_; first | refine ExOps.opR (OpOk.len tOk rfl rfl rfl) rfl ?_)
      | (refine ExOps.gP ?_; first | (refine ExOps.gBin ?_; refine ExOps.calcE tOk rfl rfl (by first | exact eqT rfl | exact eqF (fun h => h rfl) | exact beqT _ | exact wrapB _ _ | exact wrapE (by omega) (by omega) | exact wrapE32 (by omega) (by omega) | fail) ?_) | (refine ExOps.gB ?_; refine ExOps.calcE tOk rfl rfl (by conv => lhs; simp [pev, upd, PV.cells, argSlots]) ?_) | refine ExOps.calcE tOk rfl rfl (by conv => lhs; whnf) ?_)
      | (refine ExOps.gG ?_; first | (refine ExOps.gIn rfl rfl ?_; first | (refine ExOps.gBin ?_; refine ExOps.calcGE tOk rfl rfl rfl rfl rfl (by first | exact eqT rfl | exact eqF (fun h => h rfl) | exact beqT _ | exact wrapB _ _ | exact wrapE (by omega) (by omega) | exact wrapE32 (by omega) (by omega) | fail) ?_) | refine ExOps.calcGE tOk rfl rfl rfl rfl rfl (by conv => lhs; whnf) ?_) | refine ExOps.skipGU rfl rfl rfl rfl ?_ | refine ExOps.skipU rfl rfl rfl ?_ | (refine ExOps.gOr2 ?_; refine' ExOps.or2 tOk rfl rfl rfl rfl rfl rfl rfl (by first | rfl | exact isDec _) (fun hg => ?_) ?_; rotate_left 3) | (refine ExOps.gAnd2 ?_; refine' ExOps.and2 tOk rfl rfl rfl rfl rfl rfl rfl (by first | rfl | exact isDec _) (fun hg => ?_) ?_; rotate_left 3) | ((fail_if_success refine ExOps.gIn rfl rfl ?_); first | refine ExOps.guardD rfl rfl rfl (fun hg => ?_) (fun hg => ?_) | refine ExOps.guard rfl rfl rfl (fun hg => ?_) (fun hg => ?_)))
      | refine DRd.nil ?_
      | (refine DRd.gPC ?_; first | refine DRd.opR (OpOk.len tOk rfl rfl rfl) rfl ?_)
      | (refine DRd.gP ?_; first | (refine DRd.gBin ?_; refine DRd.calcE tOk rfl rfl (by first | exact eqT rfl | exact eqF (fun h => h rfl) | exact beqT _ | exact wrapB _ _ | exact wrapE (by omega) (by omega) | exact wrapE32 (by omega) (by omega) | fail) ?_) | refine DRd.calcE tOk rfl rfl (by conv => lhs; whnf) ?_)
      | (refine DRd.gG ?_; first | (refine DRd.gIn rfl rfl ?_; first | (refine DRd.gGC ?_; first | refine DRd.opRG rfl rfl rfl (OpOk.len tOk rfl rfl rfl) rfl ?_) | (first | (refine DRd.gBin ?_; refine DRd.calcGE tOk rfl rfl rfl rfl rfl (by first | exact eqT rfl | exact eqF (fun h => h rfl) | exact beqT _ | exact wrapB _ _ | exact wrapE (by omega) (by omega) | exact wrapE32 (by omega) (by omega) | fail) ?_) | refine DRd.calcGE tOk rfl rfl rfl rfl rfl (by conv => lhs; whnf) ?_)) | refine DRd.skipG rfl rfl rfl rfl ?_ | refine DRd.guardG rfl rfl rfl (by first | rfl | exact isDec _) (fun hg => ?_) (fun hg => ?_))
      | (refine QSeq.g ?_; first | refine QSeq.norm ?_ | refine QSeq.ret ?_ | refine QSeq.exit ?_)
      | (refine QBlock.g ?_; first | refine QBlock.norm ?_ | refine QBlock.ret ?_ | refine QBlock.hit rfl ?_ | refine QBlock.miss rfl ?_)
      | (refine QLoop.g ?_; first | refine QLoop.ret ?_ | refine QLoop.exit ?_)
      | (refine QRet.g ?_; (first | ((first | refine QRet.end_ (.cons (.tmpE (by conv => lhs; whnf)) .nil) ?_ | refine QRet.endN (.cons (.tmpE (by conv => lhs; whnf)) .nil) ?_); try (focus first | rfl | (simp_all [packP]; done))) | ((first | refine QRet.same (.cons (.tmpE (by conv => lhs; whnf)) .nil) ?_ ?_ | refine QRet.sameN (.cons (.tmpE (by conv => lhs; whnf)) .nil) ?_ ?_); try (rotate_left; (focus first | rfl | (simp_all [packP]; done)); try (focus first | rfl | (simp_all [packP]; done))))))
      | refine ⟨rfl, (by first | rfl | exact isDec _), (by (repeat' (first | exact WkS.refl _ | refine WkS.upd ?_ Wk.junk)); first | done | fail), rfl⟩
      | fail)
    refine Ex.loop (fun m s σ => ∃ k : Nat, (m + k = t.kids.length) ∧ s 0 = .ptr [.int .i64 t.kind, .int .i64 t.num, .str t.nm, .str t.mk', .slc (pvs t.kids) t.kids.length] ∧ s 1 = .ptr [.int .i64 t.kind, .int .i64 t.num, .str t.nm, .str t.mk', .slc (pvs t.kids) t.kids.length] ∧ s 5 = .int .i64 k ∧ σ = []) (t.kids.length) ⟨0, (by first | rfl | assumption | omega | exact slot_check rfl | (simp; done) | (simp; omega) | fail), (by first | rfl | assumption | omega | exact slot_check rfl | (simp; done) | (simp; omega) | fail), (by first | rfl | assumption | omega | exact slot_check rfl | (simp; done) | (simp; omega) | fail), (by first | rfl | assumption | omega | exact slot_check rfl | (simp; done) | (simp; omega) | fail), rfl⟩ ?_
    rintro m s σ ⟨k, hi0, h0, h1, h5, rfl⟩
    refine (Ex.have_ (t := 0) h0 (Ex.have_ (t := 1) h1 (Ex.have_ (t := 5) h5 ?_)))
    repeat' (first
      | (refine Ex.g ?_; first | refine Ex.seq ?_ | refine Ex.region ?_ | refine Ex.drawR mixed (by kernel_rfl) ?_ | refine Ex.skip ?_ | refine Ex.ret ?_ | refine Ex.exit ?_ | refine Ex.block ?_ | (refine Ex.gCond ?_; first | refine Ex.condT rfl ?_ | refine Ex.condF rfl ?_ | refine Ex.condD rfl (fun hc => ?_) (fun hc => ?_) | refine Ex.condN rfl (fun hc => ?_) (fun hc => ?_) | refine Ex.cond rfl (fun hc => ?_) (fun hc => ?_)))
      | refine ExOps.nil ?_
      | (refine ExOps.gPC ?_; first | refine ExOps.opR (OpOk.len tOk rfl rfl rfl) rfl ?_ | refine ExOps.opR (.cp rfl rfl rfl (h := ih _ (get!_mem (by omega)))) rfl ?_)
      | (refine ExOps.gP ?_; first | (refine ExOps.gBin ?_; refine ExOps.calcE tOk rfl rfl (by first | exact eqT rfl | exact eqF (fun h => h rfl) | exact beqT _ | exact wrapB _ _ | exact wrapE (by omega) (by omega) | exact wrapE32 (by omega) (by omega) | fail) ?_) | (refine ExOps.gB ?_; refine ExOps.calcE tOk rfl rfl (by conv => lhs; simp [pev, upd, PV.cells, argSlots]) ?_) | refine ExOps.calcE tOk rfl rfl (by conv => lhs; whnf) ?_ | refine ExOps.opR (OpOk.indexKid tOk rfl rfl rfl rfl rfl rfl rfl (by omega) (by omega) (by omega)) rfl ?_)
      | (refine ExOps.gG ?_; first | (refine ExOps.gIn rfl rfl ?_; first | (refine ExOps.gBin ?_; refine ExOps.calcGE tOk rfl rfl rfl rfl rfl (by first | exact eqT rfl | exact eqF (fun h => h rfl) | exact beqT _ | exact wrapB _ _ | exact wrapE (by omega) (by omega) | exact wrapE32 (by omega) (by omega) | fail) ?_) | refine ExOps.calcGE tOk rfl rfl rfl rfl rfl (by conv => lhs; whnf) ?_ | refine ExOps.opRG rfl rfl rfl (OpOk.indexKid tOk rfl rfl rfl rfl rfl rfl rfl (by omega) (by omega) (by omega)) rfl ?_) | refine ExOps.skipGU rfl rfl rfl rfl ?_ | refine ExOps.skipU rfl rfl rfl ?_ | (refine ExOps.gOr2 ?_; refine' ExOps.or2 tOk rfl rfl rfl rfl rfl rfl rfl (by first | rfl | exact isDec _) (fun hg => ?_) ?_; rotate_left 3) | (refine ExOps.gAnd2 ?_; refine' ExOps.and2 tOk rfl rfl rfl rfl rfl rfl rfl (by first | rfl | exact isDec _) (fun hg => ?_) ?_; rotate_left 3) | ((fail_if_success refine ExOps.gIn rfl rfl ?_); first | refine ExOps.guardD rfl rfl rfl (fun hg => ?_) (fun hg => ?_) | refine ExOps.guard rfl rfl rfl (fun hg => ?_) (fun hg => ?_)))
      | refine DRd.nil ?_
      | (refine DRd.gPC ?_; first | refine DRd.opR (OpOk.len tOk rfl rfl rfl) rfl ?_ | refine DRd.opR (.cp rfl rfl rfl (h := ih _ (get!_mem (by omega)))) rfl ?_)
      | (refine DRd.gP ?_; first | (refine DRd.gBin ?_; refine DRd.calcE tOk rfl rfl (by first | exact eqT rfl | exact eqF (fun h => h rfl) | exact beqT _ | exact wrapB _ _ | exact wrapE (by omega) (by omega) | exact wrapE32 (by omega) (by omega) | fail) ?_) | refine DRd.calcE tOk rfl rfl (by conv => lhs; whnf) ?_ | refine DRd.opR (OpOk.indexKid tOk rfl rfl rfl rfl rfl rfl rfl (by omega) (by omega) (by omega)) rfl ?_)
      | (refine DRd.gG ?_; first | (refine DRd.gIn rfl rfl ?_; first | (refine DRd.gGC ?_; first | refine DRd.opRG rfl rfl rfl (OpOk.len tOk rfl rfl rfl) rfl ?_ | refine DRd.opRG rfl rfl rfl (.cp rfl rfl rfl (h := ih _ (get!_mem (by omega)))) rfl ?_) | (first | (refine DRd.gBin ?_; refine DRd.calcGE tOk rfl rfl rfl rfl rfl (by first | exact eqT rfl | exact eqF (fun h => h rfl) | exact beqT _ | exact wrapB _ _ | exact wrapE (by omega) (by omega) | exact wrapE32 (by omega) (by omega) | fail) ?_) | refine DRd.calcGE tOk rfl rfl rfl rfl rfl (by conv => lhs; whnf) ?_ | refine DRd.opRG rfl rfl rfl (OpOk.indexKid tOk rfl rfl rfl rfl rfl rfl rfl (by omega) (by omega) (by omega)) rfl ?_)) | refine DRd.skipG rfl rfl rfl rfl ?_ | refine DRd.guardG rfl rfl rfl (by first | rfl | exact isDec _) (fun hg => ?_) (fun hg => ?_))
      | (refine QSeq.g ?_; first | refine QSeq.norm ?_ | refine QSeq.ret ?_ | refine QSeq.exit ?_)
      | (refine QBlock.g ?_; first | refine QBlock.norm ?_ | refine QBlock.ret ?_ | refine QBlock.hit rfl ?_ | refine QBlock.miss rfl ?_)
      | (refine QLoop.g ?_; first | refine QLoop.ret ?_ | refine QLoop.exit ?_)
      | (refine QRet.g ?_; (first | ((first | refine QRet.end_ (.cons (.tmpE (by conv => lhs; whnf)) .nil) ?_ | refine QRet.endN (.cons (.tmpE (by conv => lhs; whnf)) .nil) ?_); try (focus first | rfl | (rfl; done))) | ((first | refine QRet.same (.cons (.tmpE (by conv => lhs; whnf)) .nil) ?_ ?_ | refine QRet.sameN (.cons (.tmpE (by conv => lhs; whnf)) .nil) ?_ ?_); try (rotate_left; (focus first | rfl | (rfl; done)); try (focus first | rfl | (rfl; done))))))
      | refine ⟨rfl, (by first | rfl | exact isDec _), (by (repeat' (first | exact WkS.refl _ | refine WkS.upd ?_ Wk.junk)); first | done | fail), rfl⟩
      | fail)
    exact QLoop.next (m - 1) (by omega) ⟨k + 1, (by first | rfl | omega | exact (congrArg (PV.int .i64) (by (try simp only [Int.toNat_natCast]); (try rw [wrap_id (by omega) (by omega)]); (try split) <;> omega)) | assumption | (simp; done) | fail), (by first | rfl | omega | exact (congrArg (PV.int .i64) (by (try simp only [Int.toNat_natCast]); (try rw [wrap_id (by omega) (by omega)]); (try split) <;> omega)) | assumption | (simp; done) | fail), (by first | rfl | omega | exact (congrArg (PV.int .i64) (by (try simp only [Int.toNat_natCast]); (try rw [wrap_id (by omega) (by omega)]); (try split) <;> omega)) | assumption | (simp; done) | fail), (by first | rfl | omega | exact (congrArg (PV.int .i64) (by (try simp only [Int.toNat_natCast]); (try rw [wrap_id (by omega) (by omega)]); (try split) <;> omega)) | assumption | (simp; done) | fail), rfl⟩
theorem same_nil : Callable Tryz.prog 19 [.nilp, .nilp] [] (Ret (.bool true) []) := by
  refine Callable.of_ex tOk [.tmp 4] Tryz.func19 rfl rfl rfl (Nat.le_of_ble_eq_true rfl) ?_
  repeat' (first
    | (refine Ex.g ?_; first | refine Ex.seq ?_ | refine Ex.region ?_ | refine Ex.drawR mixed (by kernel_rfl) ?_ | refine Ex.skip ?_ | refine Ex.ret ?_ | refine Ex.exit ?_ | refine Ex.block ?_ | (refine Ex.gCond ?_; first | refine Ex.condT rfl ?_ | refine Ex.condF rfl ?_ | refine Ex.condD rfl (fun hc => ?_) (fun hc => ?_) | refine Ex.condN rfl (fun hc => ?_) (fun hc => ?_) | refine Ex.cond rfl (fun hc => ?_) (fun hc => ?_)))
    | refine ExOps.nil ?_
    | (refine ExOps.gPC ?_; first | refine ExOps.opR (OpOk.len tOk rfl rfl rfl) rfl ?_)
    | (refine ExOps.gP ?_; first | (refine ExOps.gBin ?_; refine ExOps.calcE tOk rfl rfl (by first | exact eqT rfl | exact eqF (fun h => h rfl) | exact beqT _ | exact wrapB _ _ | exact wrapE (by omega) (by omega) | exact wrapE32 (by omega) (by omega) | fail) ?_) | (refine ExOps.gB ?_; refine ExOps.calcE tOk rfl rfl (by conv => lhs; simp [pev, upd, PV.cells, argSlots]) ?_) | refine ExOps.calcE tOk rfl rfl (by conv => lhs; whnf) ?_)
    | (refine ExOps.gG ?_; first | (refine ExOps.gIn rfl rfl ?_; first | (refine ExOps.gBin ?_; refine ExOps.calcGE tOk rfl rfl rfl rfl rfl (by first | exact eqT rfl | exact eqF (fun h => h rfl) | exact beqT _ | exact wrapB _ _ | exact wrapE (by omega) (by omega) | exact wrapE32 (by omega) (by omega) | fail) ?_) | refine ExOps.calcGE tOk rfl rfl rfl rfl rfl (by conv => lhs; whnf) ?_) | refine ExOps.skipGU rfl rfl rfl rfl ?_ | refine ExOps.skipU rfl rfl rfl ?_ | (refine ExOps.gOr2 ?_; refine' ExOps.or2 tOk rfl rfl rfl rfl rfl rfl rfl (by first | rfl | exact isDec _) (fun hg => ?_) ?_; rotate_left 3) | (refine ExOps.gAnd2 ?_; refine' ExOps.and2 tOk rfl rfl rfl rfl rfl rfl rfl (by first | rfl | exact isDec _) (fun hg => ?_) ?_; rotate_left 3) | ((fail_if_success refine ExOps.gIn rfl rfl ?_); first | refine ExOps.guardD rfl rfl rfl (fun hg => ?_) (fun hg => ?_) | refine ExOps.guard rfl rfl rfl (fun hg => ?_) (fun hg => ?_)))
    | refine DRd.nil ?_
    | (refine DRd.gPC ?_; first | refine DRd.opR (OpOk.len tOk rfl rfl rfl) rfl ?_)
    | (refine DRd.gP ?_; first | (refine DRd.gBin ?_; refine DRd.calcE tOk rfl rfl (by first | exact eqT rfl | exact eqF (fun h => h rfl) | exact beqT _ | exact wrapB _ _ | exact wrapE (by omega) (by omega) | exact wrapE32 (by omega) (by omega) | fail) ?_) | refine DRd.calcE tOk rfl rfl (by conv => lhs; whnf) ?_)
    | (refine DRd.gG ?_; first | (refine DRd.gIn rfl rfl ?_; first | (refine DRd.gGC ?_; first | refine DRd.opRG rfl rfl rfl (OpOk.len tOk rfl rfl rfl) rfl ?_) | (first | (refine DRd.gBin ?_; refine DRd.calcGE tOk rfl rfl rfl rfl rfl (by first | exact eqT rfl | exact eqF (fun h => h rfl) | exact beqT _ | exact wrapB _ _ | exact wrapE (by omega) (by omega) | exact wrapE32 (by omega) (by omega) | fail) ?_) | refine DRd.calcGE tOk rfl rfl rfl rfl rfl (by conv => lhs; whnf) ?_)) | refine DRd.skipG rfl rfl rfl rfl ?_ | refine DRd.guardG rfl rfl rfl (by first | rfl | exact isDec _) (fun hg => ?_) (fun hg => ?_))
    | (refine QSeq.g ?_; first | refine QSeq.norm ?_ | refine QSeq.ret ?_ | refine QSeq.exit ?_)
    | (refine QBlock.g ?_; first | refine QBlock.norm ?_ | refine QBlock.ret ?_ | refine QBlock.hit rfl ?_ | refine QBlock.miss rfl ?_)
    | (refine QLoop.g ?_; first | refine QLoop.ret ?_ | refine QLoop.exit ?_)
    | (refine QRet.g ?_; (first | ((first | refine QRet.end_ (.cons (.tmpE (by conv => lhs; whnf)) .nil) ?_ | refine QRet.endN (.cons (.tmpE (by conv => lhs; whnf)) .nil) ?_); try (focus first | rfl | (rfl; done))) | ((first | refine QRet.same (.cons (.tmpE (by conv => lhs; whnf)) .nil) ?_ ?_ | refine QRet.sameN (.cons (.tmpE (by conv => lhs; whnf)) .nil) ?_ ?_); try (rotate_left; (focus first | rfl | (rfl; done)); try (focus first | rfl | (rfl; done))))))
    | refine ⟨rfl, (by first | rfl | exact isDec _), (by (repeat' (first | exact WkS.refl _ | refine WkS.upd ?_ Wk.junk)); first | done | fail), rfl⟩
    | fail)
theorem all_ok (c : List Tree) (h : sizes c ≤ 1099511627776) : Callable Tryz.prog 20 [.slc (pvs c) c.length, .slc (pvs c) c.length] [] (Ret (.bool true) []) := by
  have hll := len_le_sizes c
  refine Callable.of_ex tOk [.tmp 4] Tryz.func20 rfl rfl rfl (Nat.le_of_ble_eq_true rfl) ?_
  repeat' (first
    | (refine Ex.g ?_; first | refine Ex.seq ?_ | refine Ex.region ?_ | refine Ex.drawR mixed (by kernel_rfl) ?_ | refine Ex.skip ?_ | refine Ex.ret ?_ | refine Ex.exit ?_ | refine Ex.block ?_ | (refine Ex.gCond ?_; first | refine Ex.condT rfl ?_ | refine Ex.condF rfl ?_ | refine Ex.condD rfl (fun hc => ?_) (fun hc => ?_) | refine Ex.condN rfl (fun hc => ?_) (fun hc => ?_) | refine Ex.cond rfl (fun hc => ?_) (fun hc => ?_)))
    | refine ExOps.nil ?_
    | (refine ExOps.gPC ?_; first | refine ExOps.opR (OpOk.len tOk rfl rfl rfl) rfl ?_)
    | (refine ExOps.gP ?_; first | (refine ExOps.gBin ?_; refine ExOps.calcE tOk rfl rfl (by first | exact eqT rfl | exact eqF (fun h => h rfl) | exact beqT _ | exact wrapB _ _ | exact wrapE (by omega) (by omega) | exact wrapE32 (by omega) (by omega) | fail) ?_) | (refine ExOps.gB ?_; refine ExOps.calcE tOk rfl rfl (by conv => lhs; simp [pev, upd, PV.cells, argSlots]) ?_) | refine ExOps.calcE tOk rfl rfl (by conv => lhs; whnf) ?_)
    | refine DRd.nil ?_
    | (refine DRd.gPC ?_; first | refine DRd.opR (OpOk.len tOk rfl rfl rfl) rfl ?_)
    | (refine DRd.gP ?_; first | (refine DRd.gBin ?_; refine DRd.calcE tOk rfl rfl (by first | exact eqT rfl | exact eqF (fun h => h rfl) | exact beqT _ | exact wrapB _ _ | exact wrapE (by omega) (by omega) | exact wrapE32 (by omega) (by omega) | fail) ?_) | refine DRd.calcE tOk rfl rfl (by conv => lhs; whnf) ?_)
    | (refine QSeq.g ?_; first | refine QSeq.norm ?_ | refine QSeq.ret ?_ | refine QSeq.exit ?_)
    | (refine QBlock.g ?_; first | refine QBlock.norm ?_ | refine QBlock.ret ?_ | refine QBlock.hit rfl ?_ | refine QBlock.miss rfl ?_)
    | (refine QLoop.g ?_; first | refine QLoop.ret ?_ | refine QLoop.exit ?_)
    | (refine QRet.g ?_; (first | ((first | refine QRet.end_ (.cons (.tmpE (by conv => lhs; whnf)) .nil) ?_ | refine QRet.endN (.cons (.tmpE (by conv => lhs; whnf)) .nil) ?_); try (focus first | rfl | (simp_all [packP]; done))) | ((first | refine QRet.same (.cons (.tmpE (by conv => lhs; whnf)) .nil) ?_ ?_ | refine QRet.sameN (.cons (.tmpE (by conv => lhs; whnf)) .nil) ?_ ?_); try (rotate_left; (focus first | rfl | (simp_all [packP]; done)); try (focus first | rfl | (simp_all [packP]; done))))))
    | fail)
  refine Ex.loop (fun m s σ => ∃ k : Nat, (m + k = c.length) ∧ s 0 = .slc (pvs c) c.length ∧ s 1 = .slc (pvs c) c.length ∧ s 12 = .int .i64 c.length ∧ s 13 = .int .i64 k ∧ σ = []) (c.length) ⟨0, (by first | rfl | assumption | omega | exact slot_check rfl | (simp; done) | (simp; omega) | fail), (by first | rfl | assumption | omega | exact slot_check rfl | (simp; done) | (simp; omega) | fail), (by first | rfl | assumption | omega | exact slot_check rfl | (simp; done) | (simp; omega) | fail), (by first | rfl | assumption | omega | exact slot_check rfl | (simp; done) | (simp; omega) | fail), (by first | rfl | assumption | omega | exact slot_check rfl | (simp; done) | (simp; omega) | fail), rfl⟩ ?_
  rintro m s σ ⟨k, hi0, h0, h1, h12, h13, rfl⟩
  refine (Ex.have_ (t := 0) h0 (Ex.have_ (t := 1) h1 (Ex.have_ (t := 12) h12 (Ex.have_ (t := 13) h13 ?_))))
  repeat' (first
    | (refine Ex.g ?_; first | refine Ex.seq ?_ | refine Ex.region ?_ | refine Ex.drawR mixed (by kernel_rfl) ?_ | refine Ex.skip ?_ | refine Ex.ret ?_ | refine Ex.exit ?_ | refine Ex.block ?_ | (refine Ex.gCond ?_; first | refine Ex.condT rfl ?_ | refine Ex.condF rfl ?_ | refine Ex.condD rfl (fun hc => ?_) (fun hc => ?_) | refine Ex.condN rfl (fun hc => ?_) (fun hc => ?_) | refine Ex.cond rfl (fun hc => ?_) (fun hc => ?_)))
    | refine ExOps.nil ?_
    | (refine ExOps.gPC ?_; first | refine ExOps.opR (OpOk.len tOk rfl rfl rfl) rfl ?_ | refine ExOps.opR (.cp rfl rfl rfl (h := same_ok 4611686018427387904 _ (Nat.le_trans (sizes_ge (get!_mem (by omega))) (by omega)) (Nat.le_refl _))) rfl ?_)
    | (refine ExOps.gP ?_; first | (refine ExOps.gBin ?_; refine ExOps.calcE tOk rfl rfl (by first | exact eqT rfl | exact eqF (fun h => h rfl) | exact beqT _ | exact wrapB _ _ | exact wrapE (by omega) (by omega) | exact wrapE32 (by omega) (by omega) | fail) ?_) | (refine ExOps.gB ?_; refine ExOps.calcE tOk rfl rfl (by conv => lhs; simp [pev, upd, PV.cells, argSlots]) ?_) | refine ExOps.calcE tOk rfl rfl (by conv => lhs; whnf) ?_ | refine ExOps.opR (OpOk.indexKid tOk rfl rfl rfl rfl rfl rfl rfl (by omega) (by omega) (by omega)) rfl ?_)
    | refine DRd.nil ?_
    | (refine DRd.gPC ?_; first | refine DRd.opR (OpOk.len tOk rfl rfl rfl) rfl ?_ | refine DRd.opR (.cp rfl rfl rfl (h := same_ok 4611686018427387904 _ (Nat.le_trans (sizes_ge (get!_mem (by omega))) (by omega)) (Nat.le_refl _))) rfl ?_)
    | (refine DRd.gP ?_; first | (refine DRd.gBin ?_; refine DRd.calcE tOk rfl rfl (by first | exact eqT rfl | exact eqF (fun h => h rfl) | exact beqT _ | exact wrapB _ _ | exact wrapE (by omega) (by omega) | exact wrapE32 (by omega) (by omega) | fail) ?_) | refine DRd.calcE tOk rfl rfl (by conv => lhs; whnf) ?_ | refine DRd.opR (OpOk.indexKid tOk rfl rfl rfl rfl rfl rfl rfl (by omega) (by omega) (by omega)) rfl ?_)
    | (refine QSeq.g ?_; first | refine QSeq.norm ?_ | refine QSeq.ret ?_ | refine QSeq.exit ?_)
    | (refine QBlock.g ?_; first | refine QBlock.norm ?_ | refine QBlock.ret ?_ | refine QBlock.hit rfl ?_ | refine QBlock.miss rfl ?_)
    | (refine QLoop.g ?_; first | refine QLoop.ret ?_ | refine QLoop.exit ?_)
    | (refine QRet.g ?_; (first | ((first | refine QRet.end_ (.cons (.tmpE (by conv => lhs; whnf)) .nil) ?_ | refine QRet.endN (.cons (.tmpE (by conv => lhs; whnf)) .nil) ?_); try (focus first | rfl | (rfl; done))) | ((first | refine QRet.same (.cons (.tmpE (by conv => lhs; whnf)) .nil) ?_ ?_ | refine QRet.sameN (.cons (.tmpE (by conv => lhs; whnf)) .nil) ?_ ?_); try (rotate_left; (focus first | rfl | (rfl; done)); try (focus first | rfl | (rfl; done))))))
    | fail)
  exact QLoop.next (m - 1) (by omega) ⟨k + 1, (by first | rfl | omega | exact (congrArg (PV.int .i64) (by (try simp only [Int.toNat_natCast]); (try rw [wrap_id (by omega) (by omega)]); (try split) <;> omega)) | assumption | (simp; done) | fail), (by first | rfl | omega | exact (congrArg (PV.int .i64) (by (try simp only [Int.toNat_natCast]); (try rw [wrap_id (by omega) (by omega)]); (try split) <;> omega)) | assumption | (simp; done) | fail), (by first | rfl | omega | exact (congrArg (PV.int .i64) (by (try simp only [Int.toNat_natCast]); (try rw [wrap_id (by omega) (by omega)]); (try split) <;> omega)) | assumption | (simp; done) | fail), (by first | rfl | omega | exact (congrArg (PV.int .i64) (by (try simp only [Int.toNat_natCast]); (try rw [wrap_id (by omega) (by omega)]); (try split) <;> omega)) | assumption | (simp; done) | fail), (by first | rfl | omega | exact (congrArg (PV.int .i64) (by (try simp only [Int.toNat_natCast]); (try rw [wrap_id (by omega) (by omega)]); (try split) <;> omega)) | assumption | (simp; done) | fail), rfl⟩
theorem all_nil : Callable Tryz.prog 20 [.nils, .nils] [] (Ret (.bool true) []) :=
  Callable.weak (all_ok [] (by simp [sizes])) (by simp only [pvs]; exact .cons Wk.nils (.cons Wk.nils .nil))

/-- Few tokens, none of them long. -/
def fewT (t : Tok) : Tok := ⟨t.kind, t.text.extract 0 (min t.text.size 140), t.n, t.at_⟩
def fewF (l : List Tok) : List Tok := (l.take 80).map fewT
theorem few_take {l : List Tok} {k : Nat} (h : k < l.length) : (l.take (k + 1)).map fewT = (l.take k).map fewT ++ [fewT l[k]!] := by
  rw [← List.take_append_getElem h, List.map_append, getElem!_pos l k h]; rfl
theorem few_len {l : List Tok} {k : Nat} (h : k ≤ l.length) : ((l.take k).map fewT).length = k := by simp; omega
theorem few_ok (l : List Tok) (hl : l.length ≤ 9223372036854775807) (ht : ∀ t ∈ l, t.text.size ≤ 9223372036854775807) : Callable Tryz.prog 10 [.slc (toks l) l.length] [] (Ret (.slc (toks (fewF l)) (fewF l).length) []) := by
  refine Callable.of_ex tOk [.tmp 2] Tryz.func10 rfl rfl rfl (Nat.le_of_ble_eq_true rfl) ?_
  repeat' (first
    | (refine Ex.g ?_; first | refine Ex.seq ?_ | refine Ex.region ?_ | refine Ex.skip ?_ | refine Ex.ret ?_ | refine Ex.exit ?_ | refine Ex.block ?_ | (refine Ex.gCond ?_; first | refine Ex.condT rfl ?_ | refine Ex.condF rfl ?_ | refine Ex.condD rfl (fun hc => ?_) (fun hc => ?_) | refine Ex.condN rfl (fun hc => ?_) (fun hc => ?_) | refine Ex.cond rfl (fun hc => ?_) (fun hc => ?_)))
    | refine ExOps.nil ?_
    | (refine ExOps.gPC ?_; first | refine ExOps.opR (OpOk.len tOk rfl rfl rfl) rfl ?_)
    | (refine ExOps.gP ?_; first | (refine ExOps.gB ?_; refine ExOps.calcE tOk rfl rfl (by conv => lhs; simp [pev, upd, PV.cells, argSlots]) ?_) | refine ExOps.calcE tOk rfl rfl (by conv => lhs; whnf) ?_)
    | (refine ExOps.gG ?_; first | (refine ExOps.gIn rfl rfl ?_; first | refine ExOps.calcGE tOk rfl rfl rfl rfl rfl (by conv => lhs; whnf) ?_) | refine ExOps.skipGU rfl rfl rfl rfl ?_ | refine ExOps.skipU rfl rfl rfl ?_ | (refine ExOps.gAnd2 ?_; refine' ExOps.and2 tOk rfl rfl rfl rfl rfl rfl rfl (by first | rfl | exact isDec _) (fun hg => ?_) ?_; rotate_left 3) | ((fail_if_success refine ExOps.gIn rfl rfl ?_); first | refine ExOps.guardD rfl rfl rfl (fun hg => ?_) (fun hg => ?_) | refine ExOps.guard rfl rfl rfl (fun hg => ?_) (fun hg => ?_)))
    | (refine QSeq.g ?_; first | refine QSeq.norm ?_ | refine QSeq.ret ?_ | refine QSeq.exit ?_)
    | (refine QBlock.g ?_; first | refine QBlock.norm ?_ | refine QBlock.ret ?_ | refine QBlock.hit rfl ?_ | refine QBlock.miss rfl ?_)
    | (refine QLoop.g ?_; first | refine QLoop.ret ?_ | refine QLoop.exit ?_)
    | (refine QRet.g ?_; (first | ((first | refine QRet.end_ (.cons (.tmpE (by conv => lhs; whnf)) .nil) ?_ | refine QRet.endN (.cons (.tmpE (by conv => lhs; whnf)) .nil) ?_); try (focus first | rfl | (simp_all [packP]; done))) | ((first | refine QRet.same (.cons (.tmpE (by conv => lhs; whnf)) .nil) ?_ ?_ | refine QRet.sameN (.cons (.tmpE (by conv => lhs; whnf)) .nil) ?_ ?_); try (rotate_left; (focus first | rfl | (simp_all [packP]; done)); try (focus first | rfl | (simp_all [packP]; done))))))
    | refine ⟨rfl, (by first | rfl | exact isDec _), (by (repeat' (first | exact WkS.refl _ | refine WkS.upd ?_ Wk.junk)); first | done | fail), rfl⟩
    | fail)
  refine Ex.loop (fun m s σ => ∃ k : Nat, ∃ q : PV, ∃ sp : List Ent, ∃ g : List Ent, ∃ gg : List Ent, ((q = .nils ∧ sp = [] ∧ k = 0) ∨ (∃ v, q = .own v (toks ((l.take k).map fewT)) k ∧ sp = [.spare v 4])) ∧ (m + k = 80 ∧ k ≤ l.length) ∧ s 0 = .slc (toks l) l.length ∧ s 3 = q ∧ s 4 = .int .i64 k ∧ σ = g ++ (sp ++ gg)) (80) ⟨0, .nils, [], [], [], (by first | rfl | assumption | omega | exact slot_check rfl | (simp; done) | (simp; omega) | fail), (by first | rfl | assumption | omega | exact slot_check rfl | (simp; done) | (simp; omega) | fail), (by first | rfl | assumption | omega | exact slot_check rfl | (simp; done) | (simp; omega) | fail), (by first | rfl | assumption | omega | exact slot_check rfl | (simp; done) | (simp; omega) | fail), (by first | rfl | assumption | omega | exact slot_check rfl | (simp; done) | (simp; omega) | fail), rfl⟩ ?_
  rintro m s σ ⟨k, q, sp, g, gg, hi0, hi1, h0, h3, h4, rfl⟩
  refine (Ex.have_ (t := 0) h0 (Ex.have_ (t := 3) h3 (Ex.have_ (t := 4) h4 ?_)))
  obtain ⟨h1, h2⟩ := hi1
  by_cases hk : k < l.length ∧ k < 80
  · obtain ⟨hk1, hk2⟩ := hk
    have htx := ht _ (getB_mem hk1)
    rcases hi0 with ⟨rfl, rfl, hk0⟩ | ⟨v, rfl, rfl⟩
    · repeat' (first
        | (refine Ex.g ?_; first | refine Ex.seq ?_ | refine Ex.region ?_ | refine Ex.skip ?_ | refine Ex.ret ?_ | refine Ex.exit ?_ | refine Ex.block ?_ | (refine Ex.gCond ?_; first | refine Ex.condT rfl ?_ | refine Ex.condF rfl ?_ | refine Ex.condD rfl (fun hc => ?_) (fun hc => ?_) | refine Ex.condN rfl (fun hc => ?_) (fun hc => ?_) | refine Ex.cond rfl (fun hc => ?_) (fun hc => ?_)))
        | refine ExOps.nil ?_
        | (refine ExOps.gPC ?_; first | refine ExOps.opR (OpOk.len tOk rfl rfl rfl) rfl ?_ | refine ExOps.opR (OpOk.min2N rfl 140 rfl rfl) rfl ?_ | (refine ExOps.op (OpOk.appN tOk rfl rfl rfl rfl rfl (by decide) (by decide) rfl rfl rfl rfl rfl rfl) rfl ?_; rintro _ _ ⟨b, rfl, rfl⟩))
        | (refine ExOps.gP ?_; first | (refine ExOps.gLoad ?_; refine ExOps.opR (OpOk.loadR tOk rfl rfl rfl (.head _) rfl (r := .agg [_, _, _, _]) rfl) rfl ?_) | (refine ExOps.gLoad ?_; refine ExOps.calcE tOk (r := .agg [_, _, _, _]) rfl rfl rfl ?_) | (refine ExOps.gBin ?_; refine ExOps.calcE tOk rfl rfl (by first | exact eqT rfl | exact eqF (fun h => h rfl) | exact beqT _ | exact wrapB _ _ | exact wrapE (by omega) (by omega) | exact wrapE32 (by omega) (by omega) | fail) ?_) | (refine ExOps.gB ?_; refine ExOps.calcE tOk rfl rfl (by conv => lhs; simp [pev, upd, PV.cells, argSlots]) ?_) | refine ExOps.calcE tOk rfl rfl (by conv => lhs; whnf) ?_ | refine ExOps.opR (OpOk.indexTok tOk rfl rfl rfl rfl rfl rfl rfl (by omega) (by omega) (by omega)) rfl ?_ | (refine ExOps.op (OpOk.alloc tOk rfl rfl) rfl ?_; rintro _ _ ⟨b, rfl, rfl⟩) | refine ExOps.opR0 (OpOk.storeAll tOk rfl rfl rfl [] _ rfl rfl rfl rfl rfl rfl) ?_ | refine ExOps.opR (OpOk.loadR tOk rfl rfl rfl (.head _) rfl (by conv => lhs; whnf)) rfl ?_ | refine ExOps.opR (OpOk.loadR tOk rfl rfl rfl (.tail _ (.head _)) rfl (by conv => lhs; whnf)) rfl ?_ | refine ExOps.opR (OpOk.loadR tOk rfl rfl rfl (.tail _ (.tail _ (.head _))) rfl (by conv => lhs; whnf)) rfl ?_ | refine ExOps.opR (OpOk.loadR tOk rfl rfl rfl (.tail _ (.tail _ (.tail _ (.head _)))) rfl (by conv => lhs; whnf)) rfl ?_ | refine ExOps.opR0 (OpOk.store1 tOk rfl rfl rfl rfl [] _ rfl rfl (by conv => lhs; whnf) rfl rfl (by simp only [List.set, Nat.reduceAdd]; rfl)) ?_ | refine ExOps.opR0 (OpOk.store1 tOk rfl rfl rfl rfl [_] _ rfl rfl (by conv => lhs; whnf) rfl rfl (by simp only [List.set, Nat.reduceAdd]; rfl)) ?_ | refine ExOps.opR0 (OpOk.store1 tOk rfl rfl rfl rfl [_, _] _ rfl rfl (by conv => lhs; whnf) rfl rfl (by simp only [List.set, Nat.reduceAdd]; rfl)) ?_ | refine ExOps.opR0 (OpOk.store1 tOk rfl rfl rfl rfl [_, _, _] _ rfl rfl (by conv => lhs; whnf) rfl rfl (by simp only [List.set, Nat.reduceAdd]; rfl)) ?_ | refine ExOps.opR (OpOk.sliceSH tOk rfl rfl rfl rfl rfl (by omega)) rfl ?_ | refine ExOps.opR (OpOk.bsM tOk rfl rfl rfl rfl rfl (by decide) (by decide) rfl rfl) rfl ?_)
        | (refine ExOps.gG ?_; first | (refine ExOps.gIn rfl rfl ?_; first | (refine ExOps.gBin ?_; refine ExOps.calcGE tOk rfl rfl rfl rfl rfl (by first | exact eqT rfl | exact eqF (fun h => h rfl) | exact beqT _ | exact wrapB _ _ | exact wrapE (by omega) (by omega) | exact wrapE32 (by omega) (by omega) | fail) ?_) | refine ExOps.calcGE tOk rfl rfl rfl rfl rfl (by conv => lhs; whnf) ?_ | refine ExOps.opRG rfl rfl rfl (OpOk.indexTok tOk rfl rfl rfl rfl rfl rfl rfl (by omega) (by omega) (by omega)) rfl ?_ | refine ExOps.opRG rfl rfl rfl (OpOk.loadR tOk rfl rfl rfl (.head _) rfl (by conv => lhs; whnf)) rfl ?_ | refine ExOps.opRG rfl rfl rfl (OpOk.loadR tOk rfl rfl rfl (.tail _ (.head _)) rfl (by conv => lhs; whnf)) rfl ?_ | refine ExOps.opRG rfl rfl rfl (OpOk.loadR tOk rfl rfl rfl (.tail _ (.tail _ (.head _))) rfl (by conv => lhs; whnf)) rfl ?_ | refine ExOps.opRG rfl rfl rfl (OpOk.loadR tOk rfl rfl rfl (.tail _ (.tail _ (.tail _ (.head _)))) rfl (by conv => lhs; whnf)) rfl ?_ | refine ExOps.opRG rfl rfl rfl (OpOk.sliceSH tOk rfl rfl rfl rfl rfl (by omega)) rfl ?_ | refine ExOps.opRG rfl rfl rfl (OpOk.bsM tOk rfl rfl rfl rfl rfl (by decide) (by decide) rfl rfl) rfl ?_) | refine ExOps.skipGU rfl rfl rfl rfl ?_ | refine ExOps.skipU rfl rfl rfl ?_ | (refine ExOps.gAnd2 ?_; refine' ExOps.and2 tOk rfl rfl rfl rfl rfl rfl rfl (by first | rfl | exact isDec _) (fun hg => ?_) ?_; rotate_left 3) | ((fail_if_success refine ExOps.gIn rfl rfl ?_); first | refine ExOps.guardD rfl rfl rfl (fun hg => ?_) (fun hg => ?_) | refine ExOps.guard rfl rfl rfl (fun hg => ?_) (fun hg => ?_)))
        | (refine QSeq.g ?_; first | refine QSeq.norm ?_ | refine QSeq.ret ?_ | refine QSeq.exit ?_)
        | (refine QBlock.g ?_; first | refine QBlock.norm ?_ | refine QBlock.ret ?_ | refine QBlock.hit rfl ?_ | refine QBlock.miss rfl ?_)
        | (refine QLoop.g ?_; first | refine QLoop.ret ?_ | refine QLoop.exit ?_)
        | (refine QRet.g ?_; (first | ((first | refine QRet.end_ (.cons (.tmpE (by conv => lhs; whnf)) .nil) ?_ | refine QRet.endN (.cons (.tmpE (by conv => lhs; whnf)) .nil) ?_); try (focus first | rfl | (simp_all [packP]; done))) | ((first | refine QRet.same (.cons (.tmpE (by conv => lhs; whnf)) .nil) ?_ ?_ | refine QRet.sameN (.cons (.tmpE (by conv => lhs; whnf)) .nil) ?_ ?_); try (rotate_left; (focus first | rfl | (simp_all [packP]; done)); try (focus first | rfl | (simp_all [packP]; done))))))
        | refine ⟨rfl, (by first | rfl | exact isDec _), (by (repeat' (first | exact WkS.refl _ | refine WkS.upd ?_ Wk.junk)); first | done | fail), rfl⟩
        | fail)
      all_goals first | (exfalso; omega) | skip
      refine QLoop.next (m - 1) (by omega) ⟨k + 1, .own b (toks ((l.take (k + 1)).map fewT)) (k + 1), [.spare b 4], [], _, .inr ⟨b, rfl, rfl⟩, ⟨by omega, by omega⟩, rfl, ?_, rfl, rfl⟩
      subst hk0
      show PV.own b (fewT l[0]!).cells 1 = _
      rw [few_take hk1]; simp [toks]
    · repeat' (first
        | (refine Ex.g ?_; first | refine Ex.seq ?_ | refine Ex.region ?_ | refine Ex.skip ?_ | refine Ex.ret ?_ | refine Ex.exit ?_ | refine Ex.block ?_ | (refine Ex.gCond ?_; first | refine Ex.condT rfl ?_ | refine Ex.condF rfl ?_ | refine Ex.condD rfl (fun hc => ?_) (fun hc => ?_) | refine Ex.condN rfl (fun hc => ?_) (fun hc => ?_) | refine Ex.cond rfl (fun hc => ?_) (fun hc => ?_)))
        | refine ExOps.nil ?_
        | (refine ExOps.gPC ?_; first | refine ExOps.opR (OpOk.len tOk rfl rfl rfl) rfl ?_ | refine ExOps.opR (OpOk.min2N rfl 140 rfl rfl) rfl ?_ | (refine ExOps.op (OpOk.app tOk rfl rfl rfl rfl rfl (by decide) (by decide) rfl rfl rfl (_ :: g) rfl (by rw [toks_length, few_len h2]; rfl) rfl rfl rfl (by omega)) rfl ?_; rintro _ _ ⟨b, rfl, rfl⟩))
        | (refine ExOps.gP ?_; first | (refine ExOps.gLoad ?_; refine ExOps.opR (OpOk.loadR tOk rfl rfl rfl (.head _) rfl (r := .agg [_, _, _, _]) rfl) rfl ?_) | (refine ExOps.gLoad ?_; refine ExOps.calcE tOk (r := .agg [_, _, _, _]) rfl rfl rfl ?_) | (refine ExOps.gBin ?_; refine ExOps.calcE tOk rfl rfl (by first | exact eqT rfl | exact eqF (fun h => h rfl) | exact beqT _ | exact wrapB _ _ | exact wrapE (by omega) (by omega) | exact wrapE32 (by omega) (by omega) | fail) ?_) | (refine ExOps.gB ?_; refine ExOps.calcE tOk rfl rfl (by conv => lhs; simp [pev, upd, PV.cells, argSlots]) ?_) | refine ExOps.calcE tOk rfl rfl (by conv => lhs; whnf) ?_ | refine ExOps.opR (OpOk.indexTok tOk rfl rfl rfl rfl rfl rfl rfl (by omega) (by omega) (by omega)) rfl ?_ | (refine ExOps.op (OpOk.alloc tOk rfl rfl) rfl ?_; rintro _ _ ⟨b, rfl, rfl⟩) | refine ExOps.opR0 (OpOk.storeAll tOk rfl rfl rfl [] _ rfl rfl rfl rfl rfl rfl) ?_ | refine ExOps.opR (OpOk.loadR tOk rfl rfl rfl (.head _) rfl (by conv => lhs; whnf)) rfl ?_ | refine ExOps.opR (OpOk.loadR tOk rfl rfl rfl (.tail _ (.head _)) rfl (by conv => lhs; whnf)) rfl ?_ | refine ExOps.opR (OpOk.loadR tOk rfl rfl rfl (.tail _ (.tail _ (.head _))) rfl (by conv => lhs; whnf)) rfl ?_ | refine ExOps.opR (OpOk.loadR tOk rfl rfl rfl (.tail _ (.tail _ (.tail _ (.head _)))) rfl (by conv => lhs; whnf)) rfl ?_ | refine ExOps.opR0 (OpOk.store1 tOk rfl rfl rfl rfl [] _ rfl rfl (by conv => lhs; whnf) rfl rfl (by simp only [List.set, Nat.reduceAdd]; rfl)) ?_ | refine ExOps.opR0 (OpOk.store1 tOk rfl rfl rfl rfl [_] _ rfl rfl (by conv => lhs; whnf) rfl rfl (by simp only [List.set, Nat.reduceAdd]; rfl)) ?_ | refine ExOps.opR0 (OpOk.store1 tOk rfl rfl rfl rfl [_, _] _ rfl rfl (by conv => lhs; whnf) rfl rfl (by simp only [List.set, Nat.reduceAdd]; rfl)) ?_ | refine ExOps.opR0 (OpOk.store1 tOk rfl rfl rfl rfl [_, _, _] _ rfl rfl (by conv => lhs; whnf) rfl rfl (by simp only [List.set, Nat.reduceAdd]; rfl)) ?_ | refine ExOps.opR (OpOk.sliceSH tOk rfl rfl rfl rfl rfl (by omega)) rfl ?_ | refine ExOps.opR (OpOk.bsM tOk rfl rfl rfl rfl rfl (by decide) (by decide) rfl rfl) rfl ?_)
        | (refine ExOps.gG ?_; first | (refine ExOps.gIn rfl rfl ?_; first | (refine ExOps.gBin ?_; refine ExOps.calcGE tOk rfl rfl rfl rfl rfl (by first | exact eqT rfl | exact eqF (fun h => h rfl) | exact beqT _ | exact wrapB _ _ | exact wrapE (by omega) (by omega) | exact wrapE32 (by omega) (by omega) | fail) ?_) | refine ExOps.calcGE tOk rfl rfl rfl rfl rfl (by conv => lhs; whnf) ?_ | refine ExOps.opRG rfl rfl rfl (OpOk.indexTok tOk rfl rfl rfl rfl rfl rfl rfl (by omega) (by omega) (by omega)) rfl ?_ | refine ExOps.opRG rfl rfl rfl (OpOk.loadR tOk rfl rfl rfl (.head _) rfl (by conv => lhs; whnf)) rfl ?_ | refine ExOps.opRG rfl rfl rfl (OpOk.loadR tOk rfl rfl rfl (.tail _ (.head _)) rfl (by conv => lhs; whnf)) rfl ?_ | refine ExOps.opRG rfl rfl rfl (OpOk.loadR tOk rfl rfl rfl (.tail _ (.tail _ (.head _))) rfl (by conv => lhs; whnf)) rfl ?_ | refine ExOps.opRG rfl rfl rfl (OpOk.loadR tOk rfl rfl rfl (.tail _ (.tail _ (.tail _ (.head _)))) rfl (by conv => lhs; whnf)) rfl ?_ | refine ExOps.opRG rfl rfl rfl (OpOk.sliceSH tOk rfl rfl rfl rfl rfl (by omega)) rfl ?_ | refine ExOps.opRG rfl rfl rfl (OpOk.bsM tOk rfl rfl rfl rfl rfl (by decide) (by decide) rfl rfl) rfl ?_) | refine ExOps.skipGU rfl rfl rfl rfl ?_ | refine ExOps.skipU rfl rfl rfl ?_ | (refine ExOps.gAnd2 ?_; refine' ExOps.and2 tOk rfl rfl rfl rfl rfl rfl rfl (by first | rfl | exact isDec _) (fun hg => ?_) ?_; rotate_left 3) | ((fail_if_success refine ExOps.gIn rfl rfl ?_); first | refine ExOps.guardD rfl rfl rfl (fun hg => ?_) (fun hg => ?_) | refine ExOps.guard rfl rfl rfl (fun hg => ?_) (fun hg => ?_)))
        | (refine QSeq.g ?_; first | refine QSeq.norm ?_ | refine QSeq.ret ?_ | refine QSeq.exit ?_)
        | (refine QBlock.g ?_; first | refine QBlock.norm ?_ | refine QBlock.ret ?_ | refine QBlock.hit rfl ?_ | refine QBlock.miss rfl ?_)
        | (refine QLoop.g ?_; first | refine QLoop.ret ?_ | refine QLoop.exit ?_)
        | (refine QRet.g ?_; (first | ((first | refine QRet.end_ (.cons (.tmpE (by conv => lhs; whnf)) .nil) ?_ | refine QRet.endN (.cons (.tmpE (by conv => lhs; whnf)) .nil) ?_); try (focus first | rfl | (simp_all [packP]; done))) | ((first | refine QRet.same (.cons (.tmpE (by conv => lhs; whnf)) .nil) ?_ ?_ | refine QRet.sameN (.cons (.tmpE (by conv => lhs; whnf)) .nil) ?_ ?_); try (rotate_left; (focus first | rfl | (simp_all [packP]; done)); try (focus first | rfl | (simp_all [packP]; done))))))
        | refine ⟨rfl, (by first | rfl | exact isDec _), (by (repeat' (first | exact WkS.refl _ | refine WkS.upd ?_ Wk.junk)); first | done | fail), rfl⟩
        | fail)
      all_goals first | (exfalso; omega) | skip
      refine QLoop.next (m - 1) (by omega) ⟨k + 1, .own b (toks ((l.take (k + 1)).map fewT)) (k + 1), [.spare b 4], _ :: g, gg, .inr ⟨b, rfl, rfl⟩, ⟨by omega, by omega⟩, rfl, ?_, rfl, rfl⟩
      show PV.own b (toks ((l.take k).map fewT) ++ (fewT l[k]!).cells) (k + 1) = _
      rw [toks_snoc, ← few_take hk1]
  · rcases hi0 with ⟨rfl, rfl, hk0⟩ | ⟨v, rfl, rfl⟩
    · repeat' (first
        | (refine Ex.g ?_; first | refine Ex.seq ?_ | refine Ex.region ?_ | refine Ex.skip ?_ | refine Ex.ret ?_ | refine Ex.exit ?_ | refine Ex.block ?_ | (refine Ex.gCond ?_; first | refine Ex.condT rfl ?_ | refine Ex.condF rfl ?_ | refine Ex.condD rfl (fun hc => ?_) (fun hc => ?_) | refine Ex.condN rfl (fun hc => ?_) (fun hc => ?_) | refine Ex.cond rfl (fun hc => ?_) (fun hc => ?_)))
        | refine ExOps.nil ?_
        | (refine ExOps.gPC ?_; first | refine ExOps.opR (OpOk.len tOk rfl rfl rfl) rfl ?_)
        | (refine ExOps.gP ?_; first | (refine ExOps.gB ?_; refine ExOps.calcE tOk rfl rfl (by conv => lhs; simp [pev, upd, PV.cells, argSlots]) ?_) | refine ExOps.calcE tOk rfl rfl (by conv => lhs; whnf) ?_)
        | (refine ExOps.gG ?_; first | (refine ExOps.gIn rfl rfl ?_; first | refine ExOps.calcGE tOk rfl rfl rfl rfl rfl (by conv => lhs; whnf) ?_) | refine ExOps.skipGU rfl rfl rfl rfl ?_ | refine ExOps.skipU rfl rfl rfl ?_ | (refine ExOps.gAnd2 ?_; refine' ExOps.and2 tOk rfl rfl rfl rfl rfl rfl rfl (by first | rfl | exact isDec _) (fun hg => ?_) ?_; rotate_left 3) | ((fail_if_success refine ExOps.gIn rfl rfl ?_); first | refine ExOps.guardD rfl rfl rfl (fun hg => ?_) (fun hg => ?_) | refine ExOps.guard rfl rfl rfl (fun hg => ?_) (fun hg => ?_)))
        | (refine QSeq.g ?_; first | refine QSeq.norm ?_ | refine QSeq.ret ?_ | refine QSeq.exit ?_)
        | (refine QBlock.g ?_; first | refine QBlock.norm ?_ | refine QBlock.ret ?_ | refine QBlock.hit rfl ?_ | refine QBlock.miss rfl ?_)
        | (refine QLoop.g ?_; first | refine QLoop.ret ?_ | refine QLoop.exit ?_)
        | (refine QRet.g ?_; (refine QRet.meltAll (.cons (.tmpE (by conv => lhs; whnf)) .nil) ?_; try (focus first | rfl | (simp_all [packP]; done))))
        | refine ⟨rfl, (by first | rfl | exact isDec _), (by (repeat' (first | exact WkS.refl _ | refine WkS.upd ?_ Wk.junk)); first | done | fail), rfl⟩
        | fail)
      all_goals first | (exfalso; omega) | skip
      have e : fewF l = [] := by
        have : l = [] := List.eq_nil_of_length_eq_zero (by omega)
        subst this; rfl
      rw [e]
      show Melt _ _ .nils (.slc (toks []) 0)
      have e2 : toks [] = [] := by simp [toks]
      rw [e2]; exact Melt.wk Wk.nils
    · repeat' (first
        | (refine Ex.g ?_; first | refine Ex.seq ?_ | refine Ex.region ?_ | refine Ex.skip ?_ | refine Ex.ret ?_ | refine Ex.exit ?_ | refine Ex.block ?_ | (refine Ex.gCond ?_; first | refine Ex.condT rfl ?_ | refine Ex.condF rfl ?_ | refine Ex.condD rfl (fun hc => ?_) (fun hc => ?_) | refine Ex.condN rfl (fun hc => ?_) (fun hc => ?_) | refine Ex.cond rfl (fun hc => ?_) (fun hc => ?_)))
        | refine ExOps.nil ?_
        | (refine ExOps.gPC ?_; first | refine ExOps.opR (OpOk.len tOk rfl rfl rfl) rfl ?_)
        | (refine ExOps.gP ?_; first | (refine ExOps.gB ?_; refine ExOps.calcE tOk rfl rfl (by conv => lhs; simp [pev, upd, PV.cells, argSlots]) ?_) | refine ExOps.calcE tOk rfl rfl (by conv => lhs; whnf) ?_)
        | (refine ExOps.gG ?_; first | (refine ExOps.gIn rfl rfl ?_; first | refine ExOps.calcGE tOk rfl rfl rfl rfl rfl (by conv => lhs; whnf) ?_) | refine ExOps.skipGU rfl rfl rfl rfl ?_ | refine ExOps.skipU rfl rfl rfl ?_ | (refine ExOps.gAnd2 ?_; refine' ExOps.and2 tOk rfl rfl rfl rfl rfl rfl rfl (by first | rfl | exact isDec _) (fun hg => ?_) ?_; rotate_left 3) | ((fail_if_success refine ExOps.gIn rfl rfl ?_); first | refine ExOps.guardD rfl rfl rfl (fun hg => ?_) (fun hg => ?_) | refine ExOps.guard rfl rfl rfl (fun hg => ?_) (fun hg => ?_)))
        | (refine QSeq.g ?_; first | refine QSeq.norm ?_ | refine QSeq.ret ?_ | refine QSeq.exit ?_)
        | (refine QBlock.g ?_; first | refine QBlock.norm ?_ | refine QBlock.ret ?_ | refine QBlock.hit rfl ?_ | refine QBlock.miss rfl ?_)
        | (refine QLoop.g ?_; first | refine QLoop.ret ?_ | refine QLoop.exit ?_)
        | (refine QRet.g ?_; (refine QRet.meltAll (.cons (.tmpE (by conv => lhs; whnf)) .nil) ?_; try (focus first | rfl | (simp_all [packP]; done))))
        | refine ⟨rfl, (by first | rfl | exact isDec _), (by (repeat' (first | exact WkS.refl _ | refine WkS.upd ?_ Wk.junk)); first | done | fail), rfl⟩
        | fail)
      all_goals first | (exfalso; omega) | skip
      have e : fewF l = (l.take k).map fewT := by
        unfold fewF
        rcases (show k = 80 ∨ k = l.length by omega) with rfl | rfl
        · rfl
        · rw [List.take_of_length_le (Nat.le_refl _), List.take_of_length_le (by omega)]
      rw [e, few_len h2]
      exact Melt.own (MeltL.same _)
end Go.Proofs.YtceoldiblphahaaGreatDoor
