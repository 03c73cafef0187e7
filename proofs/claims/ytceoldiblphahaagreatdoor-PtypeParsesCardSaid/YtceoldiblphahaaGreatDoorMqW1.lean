/- Contracts of the small functions on trees and tokens: counted, asked. Conditions: sizes below 2^62. -/
import Derived.Test.YtceoldiblphahaaGreatDoorMqT
import Derived.Test.YtceoldiblphahaaGreatDoorMqQ
import Derived.Test.YtceoldiblphahaaGreatDoorMqS
set_option linter.unusedVariables false
set_option linter.unusedSimpArgs false
set_option linter.unusedSectionVars false
namespace Go.Proofs.YtceoldiblphahaaGreatDoor
open Go.Mq
attribute [local irreducible] Ex ExOps QSeq QBlock QLoop QRet OpOk Callable DEx DRd Melt Wk Tree.pv pvs toks opv strs


set_option maxHeartbeats 1000000 in
theorem asize_ok : ∀ (m : Nat) (t : Tree), t.size ≤ m → m ≤ 4611686018427387904 → Callable Tryz.prog 102 [t.pv] [] (Ret (.int .i64 t.size) [])
  | 0, t, h, _ => by have := size_eq t; omega
  | m + 1, t, h, hm => by
    have ih := fun u (hu : u ∈ t.kids) => asize_ok m u (by have := kids_lt hu; omega) (by omega)
    have hsz := size_eq t
    have hll := len_le_sizes t.kids
    rw [pv_eq]
    refine Callable.of_ex tOk [.tmp 2] Tryz.func102 rfl rfl rfl (Nat.le_of_ble_eq_true rfl) ?_
    repeat' (first
      | (refine Ex.g ?_; first | refine Ex.seq ?_ | refine Ex.region ?_ | refine Ex.skip ?_ | refine Ex.ret ?_ | refine Ex.exit ?_ | refine Ex.block ?_ | (refine Ex.gCond ?_; first | refine Ex.condT rfl ?_ | refine Ex.condF rfl ?_ | refine Ex.condD rfl (fun hc => ?_) (fun hc => ?_) | refine Ex.condN rfl (fun hc => ?_) (fun hc => ?_) | refine Ex.cond rfl (fun hc => ?_) (fun hc => ?_)))
      | refine ExOps.nil ?_
      | (refine ExOps.gPC ?_; first | refine ExOps.opR (OpOk.len tOk rfl rfl rfl) rfl ?_)
      | (refine ExOps.gP ?_; first | (refine ExOps.gB ?_; refine ExOps.calcE tOk rfl rfl (by conv => lhs; simp [pev, upd, PV.cells, argSlots]) ?_) | refine ExOps.calcE tOk rfl rfl (by conv => lhs; whnf) ?_)
      | (refine QSeq.g ?_; first | refine QSeq.norm ?_ | refine QSeq.ret ?_ | refine QSeq.exit ?_)
      | (refine QBlock.g ?_; first | refine QBlock.norm ?_ | refine QBlock.ret ?_ | refine QBlock.hit rfl ?_ | refine QBlock.miss rfl ?_)
      | (refine QLoop.g ?_; first | refine QLoop.ret ?_ | refine QLoop.exit ?_)
      | (refine QRet.g ?_; (first | ((first | refine QRet.end_ (.cons (.tmpE (by conv => lhs; whnf)) .nil) ?_ | refine QRet.endN (.cons (.tmpE (by conv => lhs; whnf)) .nil) ?_); try (focus first | rfl | (simp_all [packP]; done))) | ((first | refine QRet.same (.cons (.tmpE (by conv => lhs; whnf)) .nil) ?_ ?_ | refine QRet.sameN (.cons (.tmpE (by conv => lhs; whnf)) .nil) ?_ ?_); try (rotate_left; (focus first | rfl | (simp_all [packP]; done)); try (focus first | rfl | (simp_all [packP]; done))))))
      | fail)
    refine Ex.loop (fun m s σ => ∃ k : Nat, (m + k = t.kids.length) ∧ s 11 = .slc (pvs t.kids) t.kids.length ∧ s 12 = .int .i64 t.kids.length ∧ s 13 = .int .i64 k ∧ s 3 = .int .i64 (1 + sizes (t.kids.take k) : Nat) ∧ σ = []) (t.kids.length) ⟨0, (by first | rfl | assumption | omega | exact slot_check rfl | (simp; done) | (simp; omega) | fail), (by first | rfl | assumption | omega | exact slot_check rfl | (simp; done) | (simp; omega) | fail), (by first | rfl | assumption | omega | exact slot_check rfl | (simp; done) | (simp; omega) | fail), (by first | rfl | assumption | omega | exact slot_check rfl | (simp; done) | (simp; omega) | fail), (by first | rfl | assumption | omega | exact slot_check rfl | (simp; done) | (simp; omega) | fail), rfl⟩ ?_
    rintro m s σ ⟨k, hi0, h11, h12, h13, h3, rfl⟩
    refine (Ex.have_ (t := 11) h11 (Ex.have_ (t := 12) h12 (Ex.have_ (t := 13) h13 (Ex.have_ (t := 3) h3 ?_))))
    repeat' (first
      | (refine Ex.g ?_; first | refine Ex.seq ?_ | refine Ex.region ?_ | refine Ex.skip ?_ | refine Ex.ret ?_ | refine Ex.exit ?_ | refine Ex.block ?_ | (refine Ex.gCond ?_; first | refine Ex.condT rfl ?_ | refine Ex.condF rfl ?_ | refine Ex.condD rfl (fun hc => ?_) (fun hc => ?_) | refine Ex.condN rfl (fun hc => ?_) (fun hc => ?_) | refine Ex.cond rfl (fun hc => ?_) (fun hc => ?_)))
      | refine ExOps.nil ?_
      | (refine ExOps.gPC ?_; first | refine ExOps.opR (OpOk.len tOk rfl rfl rfl) rfl ?_ | refine ExOps.opR (.cp rfl rfl rfl (h := ih _ (get!_mem (by omega)))) rfl ?_)
      | (refine ExOps.gP ?_; first | (refine ExOps.gB ?_; refine ExOps.calcE tOk rfl rfl (by conv => lhs; simp [pev, upd, PV.cells, argSlots]) ?_) | refine ExOps.calcE tOk rfl rfl (by conv => lhs; whnf) ?_ | refine ExOps.opR (OpOk.indexKid tOk rfl rfl rfl rfl rfl rfl rfl (by omega) (by omega) (by omega)) rfl ?_)
      | (refine QSeq.g ?_; first | refine QSeq.norm ?_ | refine QSeq.ret ?_ | refine QSeq.exit ?_)
      | (refine QBlock.g ?_; first | refine QBlock.norm ?_ | refine QBlock.ret ?_ | refine QBlock.hit rfl ?_ | refine QBlock.miss rfl ?_)
      | (refine QLoop.g ?_; first | refine QLoop.ret ?_ | refine QLoop.exit ?_)
      | (refine QRet.g ?_; (first | ((first | refine QRet.end_ (.cons (.tmpE (by conv => lhs; whnf)) .nil) ?_ | refine QRet.endN (.cons (.tmpE (by conv => lhs; whnf)) .nil) ?_); try (focus first | rfl | (simp_all [packP]; done))) | ((first | refine QRet.same (.cons (.tmpE (by conv => lhs; whnf)) .nil) ?_ ?_ | refine QRet.sameN (.cons (.tmpE (by conv => lhs; whnf)) .nil) ?_ ?_); try (rotate_left; (focus first | rfl | (simp_all [packP]; done)); try (focus first | rfl | (simp_all [packP]; done))))))
      | fail)
    · have hk : k < t.kids.length := by omega
      have h1 := sizes_take_succ t.kids k hk
      have h2 := sizes_take_le t.kids (k + 1)
      exact QLoop.next (m - 1) (by omega) ⟨k + 1, (by first | rfl | omega | exact (congrArg (PV.int .i64) (by (try simp only [Int.toNat_natCast]); (try rw [wrap_id (by omega) (by omega)]); (try split) <;> omega)) | assumption | (simp; done) | fail), (by first | rfl | omega | exact (congrArg (PV.int .i64) (by (try simp only [Int.toNat_natCast]); (try rw [wrap_id (by omega) (by omega)]); (try split) <;> omega)) | assumption | (simp; done) | fail), (by first | rfl | omega | exact (congrArg (PV.int .i64) (by (try simp only [Int.toNat_natCast]); (try rw [wrap_id (by omega) (by omega)]); (try split) <;> omega)) | assumption | (simp; done) | fail), (by first | rfl | omega | exact (congrArg (PV.int .i64) (by (try simp only [Int.toNat_natCast]); (try rw [wrap_id (by omega) (by omega)]); (try split) <;> omega)) | assumption | (simp; done) | fail), (by first | rfl | omega | exact (congrArg (PV.int .i64) (by (try simp only [Int.toNat_natCast]); (try rw [wrap_id (by omega) (by omega)]); (try split) <;> omega)) | assumption | (simp; done) | fail), rfl⟩
    · rw [List.take_of_length_le (by omega), ← hsz]; rfl

set_option maxHeartbeats 1000000 in
theorem adeep_ok : ∀ (m : Nat) (t : Tree), t.size ≤ m → m ≤ 4611686018427387904 → Callable Tryz.prog 72 [t.pv] [] (Ret (.int .i64 t.deep) [])
  | 0, t, h, _ => by have := size_eq t; omega
  | m + 1, t, h, hm => by
    have ih := fun u (hu : u ∈ t.kids) => adeep_ok m u (by have := kids_lt hu; omega) (by omega)
    have hsz := size_eq t
    have hdp := deep_eq t
    have hds := deep_le_size t
    have hll := len_le_sizes t.kids
    rw [pv_eq]
    refine Callable.of_ex tOk [.tmp 2] Tryz.func72 rfl rfl rfl (Nat.le_of_ble_eq_true rfl) ?_
    repeat' (first
      | (refine Ex.g ?_; first | refine Ex.seq ?_ | refine Ex.region ?_ | refine Ex.skip ?_ | refine Ex.ret ?_ | refine Ex.exit ?_ | refine Ex.block ?_ | (refine Ex.gCond ?_; first | refine Ex.condT rfl ?_ | refine Ex.condF rfl ?_ | refine Ex.condD rfl (fun hc => ?_) (fun hc => ?_) | refine Ex.condN rfl (fun hc => ?_) (fun hc => ?_) | refine Ex.cond rfl (fun hc => ?_) (fun hc => ?_)))
      | refine ExOps.nil ?_
      | (refine ExOps.gPC ?_; first | refine ExOps.opR (OpOk.len tOk rfl rfl rfl) rfl ?_)
      | (refine ExOps.gP ?_; first | (refine ExOps.gB ?_; refine ExOps.calcE tOk rfl rfl (by conv => lhs; simp [pev, upd, PV.cells, argSlots]) ?_) | refine ExOps.calcE tOk rfl rfl (by conv => lhs; whnf) ?_)
      | (refine QSeq.g ?_; first | refine QSeq.norm ?_ | refine QSeq.ret ?_ | refine QSeq.exit ?_)
      | (refine QBlock.g ?_; first | refine QBlock.norm ?_ | refine QBlock.ret ?_ | refine QBlock.hit rfl ?_ | refine QBlock.miss rfl ?_)
      | (refine QLoop.g ?_; first | refine QLoop.ret ?_ | refine QLoop.exit ?_)
      | (refine QRet.g ?_; (first | ((first | refine QRet.end_ (.cons (.tmpE (by conv => lhs; whnf)) .nil) ?_ | refine QRet.endN (.cons (.tmpE (by conv => lhs; whnf)) .nil) ?_); try (focus first | rfl | (simp_all [packP]; done))) | ((first | refine QRet.same (.cons (.tmpE (by conv => lhs; whnf)) .nil) ?_ ?_ | refine QRet.sameN (.cons (.tmpE (by conv => lhs; whnf)) .nil) ?_ ?_); try (rotate_left; (focus first | rfl | (simp_all [packP]; done)); try (focus first | rfl | (simp_all [packP]; done))))))
      | fail)
    refine Ex.loop (fun m s σ => ∃ k : Nat, (m + k = t.kids.length) ∧ s 11 = .slc (pvs t.kids) t.kids.length ∧ s 12 = .int .i64 t.kids.length ∧ s 13 = .int .i64 k ∧ s 3 = .int .i64 (deeps (t.kids.take k) : Nat) ∧ σ = []) (t.kids.length) ⟨0, (by first | rfl | assumption | omega | exact slot_check rfl | (simp; done) | (simp; omega) | fail), (by first | rfl | assumption | omega | exact slot_check rfl | (simp; done) | (simp; omega) | fail), (by first | rfl | assumption | omega | exact slot_check rfl | (simp; done) | (simp; omega) | fail), (by first | rfl | assumption | omega | exact slot_check rfl | (simp; done) | (simp; omega) | fail), (by first | rfl | assumption | omega | exact slot_check rfl | (simp; done) | (simp; omega) | fail), rfl⟩ ?_
    rintro m s σ ⟨k, hi0, h11, h12, h13, h3, rfl⟩
    refine (Ex.have_ (t := 11) h11 (Ex.have_ (t := 12) h12 (Ex.have_ (t := 13) h13 (Ex.have_ (t := 3) h3 ?_))))
    repeat' (first
      | (refine Ex.g ?_; first | refine Ex.seq ?_ | refine Ex.region ?_ | refine Ex.skip ?_ | refine Ex.ret ?_ | refine Ex.exit ?_ | refine Ex.block ?_ | (refine Ex.gCond ?_; first | refine Ex.condT rfl ?_ | refine Ex.condF rfl ?_ | refine Ex.condD rfl (fun hc => ?_) (fun hc => ?_) | refine Ex.condN rfl (fun hc => ?_) (fun hc => ?_) | refine Ex.cond rfl (fun hc => ?_) (fun hc => ?_)))
      | refine ExOps.nil ?_
      | (refine ExOps.gPC ?_; first | refine ExOps.opR (OpOk.len tOk rfl rfl rfl) rfl ?_ | refine ExOps.opR (.cp rfl rfl rfl (h := ih _ (get!_mem (by omega)))) rfl ?_ | refine ExOps.opR (OpOk.max2 rfl rfl rfl) rfl ?_)
      | (refine ExOps.gP ?_; first | (refine ExOps.gB ?_; refine ExOps.calcE tOk rfl rfl (by conv => lhs; simp [pev, upd, PV.cells, argSlots]) ?_) | refine ExOps.calcE tOk rfl rfl (by conv => lhs; whnf) ?_ | refine ExOps.opR (OpOk.indexKid tOk rfl rfl rfl rfl rfl rfl rfl (by omega) (by omega) (by omega)) rfl ?_)
      | (refine QSeq.g ?_; first | refine QSeq.norm ?_ | refine QSeq.ret ?_ | refine QSeq.exit ?_)
      | (refine QBlock.g ?_; first | refine QBlock.norm ?_ | refine QBlock.ret ?_ | refine QBlock.hit rfl ?_ | refine QBlock.miss rfl ?_)
      | (refine QLoop.g ?_; first | refine QLoop.ret ?_ | refine QLoop.exit ?_)
      | (refine QRet.g ?_; (first | ((first | refine QRet.end_ (.cons (.tmpE (by conv => lhs; whnf)) .nil) ?_ | refine QRet.endN (.cons (.tmpE (by conv => lhs; whnf)) .nil) ?_); try (focus first | rfl | (simp_all [packP]; done))) | ((first | refine QRet.same (.cons (.tmpE (by conv => lhs; whnf)) .nil) ?_ ?_ | refine QRet.sameN (.cons (.tmpE (by conv => lhs; whnf)) .nil) ?_ ?_); try (rotate_left; (focus first | rfl | (simp_all [packP]; done)); try (focus first | rfl | (simp_all [packP]; done))))))
      | fail)
    · have hk : k < t.kids.length := by omega
      have h1 := deeps_take_succ t.kids k hk
      exact QLoop.next (m - 1) (by omega) ⟨k + 1, (by first | rfl | omega | exact (congrArg (PV.int .i64) (by (try simp only [Int.toNat_natCast]); (try rw [wrap_id (by omega) (by omega)]); (try split) <;> omega)) | assumption | (simp; done) | fail), (by first | rfl | omega | exact (congrArg (PV.int .i64) (by (try simp only [Int.toNat_natCast]); (try rw [wrap_id (by omega) (by omega)]); (try split) <;> omega)) | assumption | (simp; done) | fail), (by first | rfl | omega | exact (congrArg (PV.int .i64) (by (try simp only [Int.toNat_natCast]); (try rw [wrap_id (by omega) (by omega)]); (try split) <;> omega)) | assumption | (simp; done) | fail), (by first | rfl | omega | exact (congrArg (PV.int .i64) (by (try simp only [Int.toNat_natCast]); (try rw [wrap_id (by omega) (by omega)]); (try split) <;> omega)) | assumption | (simp; done) | fail), (by first | rfl | omega | exact (congrArg (PV.int .i64) (by (try simp only [Int.toNat_natCast]); (try rw [wrap_id (by omega) (by omega)]); (try split) <;> omega)) | assumption | (simp; done) | fail), rfl⟩
    · rw [List.take_of_length_le (by omega), hdp]; exact (congrArg (PV.int .i64) (by (try simp only [Int.toNat_natCast]); (try rw [wrap_id (by omega) (by omega)]); (try split) <;> omega))
end Go.Proofs.YtceoldiblphahaaGreatDoor
