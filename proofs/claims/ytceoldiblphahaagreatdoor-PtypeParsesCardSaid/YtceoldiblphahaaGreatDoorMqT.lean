/- The types that the operations name, as the abstract layer asks them; that the program's types are so: closed facts. Conditions: none. -/
import Derived.Test.YtceoldiblphahaaGreatDoorProg
import Derived.Test.YtceoldiblphahaaGreatDoorMqB
import Derived.KernelRfl
import Derived.Lib.DecodeN
set_option linter.unusedVariables false
set_option linter.unusedSectionVars false
namespace Go.Proofs.YtceoldiblphahaaGreatDoor
open Go.Mq
instance glob : GT := ⟨fun g j => if g = 0 ∧ j < 256 then some (fun v => v = .int .u8 (Lib.firstT j)) else if g = 1 ∧ j < 32 then some (fun v => v = .int .u8 (if j % 2 = 0 then Lib.accLo (j / 2) else Lib.accHi (j / 2))) else if g = 2 ∧ j = 0 then some (fun v => ∃ m, v = .int .i64 m) else none⟩
def ti1 : TI := ⟨.func, 1, 8, [.nilf]⟩
def ti2 : TI := ⟨(.int .i64), 1, 8, [.int .i64 0]⟩
def ti3 : TI := ⟨(.int .i64), 1, 8, [.int .i64 0]⟩
def ti4 : TI := ⟨.bool, 1, 1, [.bool false]⟩
def ti5 : TI := ⟨(.int .u8), 1, 1, [.int .u8 0]⟩
def ti6 : TI := ⟨(.int .u8), 1, 1, [.int .u8 0]⟩
def ti9 : TI := ⟨.str, 1, 16, [.str ⟨#[]⟩]⟩
def ti12 : TI := ⟨(.int .u64), 1, 8, [.int .u64 0]⟩
def ti17 : TI := ⟨.ptr, 1, 8, [.nilp]⟩
def ti21 : TI := ⟨(.int .i32), 1, 4, [.int .i32 0]⟩
def ti22 : TI := ⟨(.slice 54), 1, 24, [.nils]⟩
def ti24 : TI := ⟨(.struct [(0, 1, 22)]), 1, 24, [.nils]⟩
def ti25 : TI := ⟨.ptr, 1, 8, [.nilp]⟩
def ti29 : TI := ⟨(.int .i64), 1, 8, [.int .i64 0]⟩
def ti36 : TI := ⟨(.slice 65), 1, 24, [.nils]⟩
def ti42 : TI := ⟨(.slice 25), 1, 24, [.nils]⟩
def ti52 : TI := ⟨(.slice 3), 1, 24, [.nils]⟩
def ti54 : TI := ⟨(.struct [(0, 1, 3), (1, 1, 3), (2, 1, 9), (3, 1, 9), (4, 1, 52)]), 5, 72, [.int .i64 0, .int .i64 0, .str ⟨#[]⟩, .str ⟨#[]⟩, .nils]⟩
def ti63 : TI := ⟨(.struct [(0, 1, 3), (1, 1, 3), (2, 1, 9), (3, 1, 9), (4, 1, 42)]), 5, 72, [.int .i64 0, .int .i64 0, .str ⟨#[]⟩, .str ⟨#[]⟩, .nils]⟩
def ti65 : TI := ⟨(.struct [(0, 1, 3), (1, 1, 9), (2, 1, 3), (3, 1, 3)]), 4, 40, [.int .i64 0, .str ⟨#[]⟩, .int .i64 0, .int .i64 0]⟩
def ti66 : TI := ⟨.ptr, 1, 8, [.nilp]⟩
def ti68 : TI := ⟨.func, 1, 8, [.nilf]⟩
def ti70 : TI := ⟨(.struct [(0, 1, 36), (1, 1, 3), (2, 1, 29)]), 3, 40, [.nils, .int .i64 0, .int .i64 0]⟩
def ti73 : TI := ⟨.func, 1, 8, [.nilf]⟩
def ti75 : TI := ⟨.func, 1, 8, [.nilf]⟩
def ti77 : TI := ⟨(.slice 9), 1, 24, [.nils]⟩
def ti81 : TI := ⟨.func, 1, 8, [.nilf]⟩
def ti88 : TI := ⟨.func, 1, 8, [.nilf]⟩
def ti95 : TI := ⟨(.map 9 4), 1, 8, [.nilm]⟩
def ti107 : TI := ⟨.ptr, 1, 8, [.nilp]⟩
def ti108 : TI := ⟨(.slice 5), 1, 24, [.nils]⟩
def ti110 : TI := ⟨(.struct [(0, 1, 107), (1, 1, 108)]), 2, 32, [.nilp, .nils]⟩
def ti117 : TI := ⟨(.slice 120), 1, 24, [.nils]⟩
def ti120 : TI := ⟨(.struct [(0, 1, 3), (1, 1, 3), (2, 1, 9), (3, 1, 9), (4, 1, 3), (5, 1, 3), (6, 1, 9)]), 7, 80, [.int .i64 0, .int .i64 0, .str ⟨#[]⟩, .str ⟨#[]⟩, .int .i64 0, .int .i64 0, .str ⟨#[]⟩]⟩
def ti125 : TI := ⟨(.slice 21), 1, 24, [.nils]⟩
def ti130 : TI := ⟨(.slice 75), 1, 24, [.nils]⟩
def ti131 : TI := ⟨.ptr, 1, 8, [.nilp]⟩
def ti137 : TI := ⟨(.struct [(0, 1, 5), (1, 1, 5)]), 2, 2, [.int .u8 0, .int .u8 0]⟩
def ti139 : TI := ⟨(.int .u64), 1, 8, [.int .u64 0]⟩
def ti149 : TI := ⟨(.int .u64), 1, 8, [.int .u64 0]⟩
def ti155 : TI := ⟨(.int .u32), 1, 4, [.int .u32 0]⟩
theorem tok1 : TIOk Tryz.prog 1 ti1 := ⟨⟨Tryz.t1, by kernel_rfl, rfl, rfl, ⟨_, rfl, rfl, fun _ => rfl, fun ⟨fs, h⟩ => by cases h⟩⟩, ⟨_, _, _, Tryz.underlying1⟩, rfl⟩
theorem tok2 : TIOk Tryz.prog 2 ti2 := ⟨⟨Tryz.t2, by kernel_rfl, rfl, rfl, ⟨_, rfl, rfl, fun _ => rfl, fun ⟨fs, h⟩ => by cases h⟩⟩, Tryz.underlying2, rfl⟩
theorem tok3 : TIOk Tryz.prog 3 ti3 := ⟨⟨Tryz.t3, by kernel_rfl, rfl, rfl, ⟨_, rfl, rfl, fun _ => rfl, fun ⟨fs, h⟩ => by cases h⟩⟩, Tryz.underlying3, rfl⟩
theorem tok4 : TIOk Tryz.prog 4 ti4 := ⟨⟨Tryz.t4, by kernel_rfl, rfl, rfl, ⟨_, rfl, rfl, fun _ => rfl, fun ⟨fs, h⟩ => by cases h⟩⟩, Tryz.underlying4, rfl⟩
theorem tok5 : TIOk Tryz.prog 5 ti5 := ⟨⟨Tryz.t5, by kernel_rfl, rfl, rfl, ⟨_, rfl, rfl, fun _ => rfl, fun ⟨fs, h⟩ => by cases h⟩⟩, Tryz.underlying5, rfl⟩
theorem tok6 : TIOk Tryz.prog 6 ti6 := ⟨⟨Tryz.t6, by kernel_rfl, rfl, rfl, ⟨_, rfl, rfl, fun _ => rfl, fun ⟨fs, h⟩ => by cases h⟩⟩, Tryz.underlying6, rfl⟩
theorem tok9 : TIOk Tryz.prog 9 ti9 := ⟨⟨Tryz.t9, by kernel_rfl, rfl, rfl, ⟨_, rfl, rfl, fun _ => rfl, fun ⟨fs, h⟩ => by cases h⟩⟩, Tryz.underlying9, rfl⟩
theorem tok12 : TIOk Tryz.prog 12 ti12 := ⟨⟨Tryz.t12, by kernel_rfl, rfl, rfl, ⟨_, rfl, rfl, fun _ => rfl, fun ⟨fs, h⟩ => by cases h⟩⟩, Tryz.underlying12, rfl⟩
theorem tok17 : TIOk Tryz.prog 17 ti17 := ⟨⟨Tryz.t17, by kernel_rfl, rfl, rfl, ⟨_, rfl, rfl, fun _ => rfl, fun ⟨fs, h⟩ => by cases h⟩⟩, ⟨_, Tryz.underlying17⟩, rfl⟩
theorem tok21 : TIOk Tryz.prog 21 ti21 := ⟨⟨Tryz.t21, by kernel_rfl, rfl, rfl, ⟨_, rfl, rfl, fun _ => rfl, fun ⟨fs, h⟩ => by cases h⟩⟩, Tryz.underlying21, rfl⟩
theorem tok22 : TIOk Tryz.prog 22 ti22 := ⟨⟨Tryz.t22, by kernel_rfl, rfl, rfl, ⟨_, rfl, rfl, fun _ => rfl, fun ⟨fs, h⟩ => by cases h⟩⟩, Tryz.underlying22, rfl⟩
theorem tok24 : TIOk Tryz.prog 24 ti24 := ⟨⟨Tryz.t24, by kernel_rfl, rfl, rfl, ⟨_, rfl, rfl, fun h => absurd rfl (h _), fun _ => rfl⟩⟩, ⟨_, Tryz.underlying24, by kernel_rfl, by decide⟩, rfl⟩
theorem tok25 : TIOk Tryz.prog 25 ti25 := ⟨⟨Tryz.t25, by kernel_rfl, rfl, rfl, ⟨_, rfl, rfl, fun _ => rfl, fun ⟨fs, h⟩ => by cases h⟩⟩, ⟨_, Tryz.underlying25⟩, rfl⟩
theorem tok29 : TIOk Tryz.prog 29 ti29 := ⟨⟨Tryz.t29, by kernel_rfl, rfl, rfl, ⟨_, rfl, rfl, fun _ => rfl, fun ⟨fs, h⟩ => by cases h⟩⟩, Tryz.underlying29, rfl⟩
theorem tok36 : TIOk Tryz.prog 36 ti36 := ⟨⟨Tryz.t36, by kernel_rfl, rfl, rfl, ⟨_, rfl, rfl, fun _ => rfl, fun ⟨fs, h⟩ => by cases h⟩⟩, Tryz.underlying36, rfl⟩
theorem tok42 : TIOk Tryz.prog 42 ti42 := ⟨⟨Tryz.t42, by kernel_rfl, rfl, rfl, ⟨_, rfl, rfl, fun _ => rfl, fun ⟨fs, h⟩ => by cases h⟩⟩, Tryz.underlying42, rfl⟩
theorem tok52 : TIOk Tryz.prog 52 ti52 := ⟨⟨Tryz.t52, by kernel_rfl, rfl, rfl, ⟨_, rfl, rfl, fun _ => rfl, fun ⟨fs, h⟩ => by cases h⟩⟩, Tryz.underlying52, rfl⟩
theorem tok54 : TIOk Tryz.prog 54 ti54 := ⟨⟨Tryz.t54, by kernel_rfl, rfl, rfl, ⟨_, rfl, rfl, fun h => absurd rfl (h _), fun _ => rfl⟩⟩, ⟨_, Tryz.underlying54, by kernel_rfl, by decide⟩, rfl⟩
theorem tok63 : TIOk Tryz.prog 63 ti63 := ⟨⟨Tryz.t63, by kernel_rfl, rfl, rfl, ⟨_, rfl, rfl, fun h => absurd rfl (h _), fun _ => rfl⟩⟩, ⟨_, Tryz.underlying63, by kernel_rfl, by decide⟩, rfl⟩
theorem tok65 : TIOk Tryz.prog 65 ti65 := ⟨⟨Tryz.t65, by kernel_rfl, rfl, rfl, ⟨_, rfl, rfl, fun h => absurd rfl (h _), fun _ => rfl⟩⟩, ⟨_, Tryz.underlying65, by kernel_rfl, by decide⟩, rfl⟩
theorem tok66 : TIOk Tryz.prog 66 ti66 := ⟨⟨Tryz.t66, by kernel_rfl, rfl, rfl, ⟨_, rfl, rfl, fun _ => rfl, fun ⟨fs, h⟩ => by cases h⟩⟩, ⟨_, Tryz.underlying66⟩, rfl⟩
theorem tok68 : TIOk Tryz.prog 68 ti68 := ⟨⟨Tryz.t68, by kernel_rfl, rfl, rfl, ⟨_, rfl, rfl, fun _ => rfl, fun ⟨fs, h⟩ => by cases h⟩⟩, ⟨_, _, _, Tryz.underlying68⟩, rfl⟩
theorem tok70 : TIOk Tryz.prog 70 ti70 := ⟨⟨Tryz.t70, by kernel_rfl, rfl, rfl, ⟨_, rfl, rfl, fun h => absurd rfl (h _), fun _ => rfl⟩⟩, ⟨_, Tryz.underlying70, by kernel_rfl, by decide⟩, rfl⟩
theorem tok73 : TIOk Tryz.prog 73 ti73 := ⟨⟨Tryz.t73, by kernel_rfl, rfl, rfl, ⟨_, rfl, rfl, fun _ => rfl, fun ⟨fs, h⟩ => by cases h⟩⟩, ⟨_, _, _, Tryz.underlying73⟩, rfl⟩
theorem tok75 : TIOk Tryz.prog 75 ti75 := ⟨⟨Tryz.t75, by kernel_rfl, rfl, rfl, ⟨_, rfl, rfl, fun _ => rfl, fun ⟨fs, h⟩ => by cases h⟩⟩, ⟨_, _, _, Tryz.underlying75⟩, rfl⟩
theorem tok77 : TIOk Tryz.prog 77 ti77 := ⟨⟨Tryz.t77, by kernel_rfl, rfl, rfl, ⟨_, rfl, rfl, fun _ => rfl, fun ⟨fs, h⟩ => by cases h⟩⟩, Tryz.underlying77, rfl⟩
theorem tok81 : TIOk Tryz.prog 81 ti81 := ⟨⟨Tryz.t81, by kernel_rfl, rfl, rfl, ⟨_, rfl, rfl, fun _ => rfl, fun ⟨fs, h⟩ => by cases h⟩⟩, ⟨_, _, _, Tryz.underlying81⟩, rfl⟩
theorem tok88 : TIOk Tryz.prog 88 ti88 := ⟨⟨Tryz.t88, by kernel_rfl, rfl, rfl, ⟨_, rfl, rfl, fun _ => rfl, fun ⟨fs, h⟩ => by cases h⟩⟩, ⟨_, _, _, Tryz.underlying88⟩, rfl⟩
theorem tok95 : TIOk Tryz.prog 95 ti95 := ⟨⟨Tryz.t95, by kernel_rfl, rfl, rfl, ⟨_, rfl, rfl, fun _ => rfl, fun ⟨fs, h⟩ => by cases h⟩⟩, Tryz.underlying95, rfl⟩
theorem tok107 : TIOk Tryz.prog 107 ti107 := ⟨⟨Tryz.t107, by kernel_rfl, rfl, rfl, ⟨_, rfl, rfl, fun _ => rfl, fun ⟨fs, h⟩ => by cases h⟩⟩, ⟨_, Tryz.underlying107⟩, rfl⟩
theorem tok108 : TIOk Tryz.prog 108 ti108 := ⟨⟨Tryz.t108, by kernel_rfl, rfl, rfl, ⟨_, rfl, rfl, fun _ => rfl, fun ⟨fs, h⟩ => by cases h⟩⟩, Tryz.underlying108, rfl⟩
theorem tok110 : TIOk Tryz.prog 110 ti110 := ⟨⟨Tryz.t110, by kernel_rfl, rfl, rfl, ⟨_, rfl, rfl, fun h => absurd rfl (h _), fun _ => rfl⟩⟩, ⟨_, Tryz.underlying110, by kernel_rfl, by decide⟩, rfl⟩
theorem tok117 : TIOk Tryz.prog 117 ti117 := ⟨⟨Tryz.t117, by kernel_rfl, rfl, rfl, ⟨_, rfl, rfl, fun _ => rfl, fun ⟨fs, h⟩ => by cases h⟩⟩, Tryz.underlying117, rfl⟩
theorem tok120 : TIOk Tryz.prog 120 ti120 := ⟨⟨Tryz.t120, by kernel_rfl, rfl, rfl, ⟨_, rfl, rfl, fun h => absurd rfl (h _), fun _ => rfl⟩⟩, ⟨_, Tryz.underlying120, by kernel_rfl, by decide⟩, rfl⟩
theorem tok125 : TIOk Tryz.prog 125 ti125 := ⟨⟨Tryz.t125, by kernel_rfl, rfl, rfl, ⟨_, rfl, rfl, fun _ => rfl, fun ⟨fs, h⟩ => by cases h⟩⟩, Tryz.underlying125, rfl⟩
theorem tok130 : TIOk Tryz.prog 130 ti130 := ⟨⟨Tryz.t130, by kernel_rfl, rfl, rfl, ⟨_, rfl, rfl, fun _ => rfl, fun ⟨fs, h⟩ => by cases h⟩⟩, Tryz.underlying130, rfl⟩
theorem tok131 : TIOk Tryz.prog 131 ti131 := ⟨⟨Tryz.t131, by kernel_rfl, rfl, rfl, ⟨_, rfl, rfl, fun _ => rfl, fun ⟨fs, h⟩ => by cases h⟩⟩, ⟨_, Tryz.underlying131⟩, rfl⟩
theorem tok137 : TIOk Tryz.prog 137 ti137 := ⟨⟨Tryz.t137, by kernel_rfl, rfl, rfl, ⟨_, rfl, rfl, fun h => absurd rfl (h _), fun _ => rfl⟩⟩, ⟨_, Tryz.underlying137, by kernel_rfl, by decide⟩, rfl⟩
theorem tok139 : TIOk Tryz.prog 139 ti139 := ⟨⟨Tryz.t139, by kernel_rfl, rfl, rfl, ⟨_, rfl, rfl, fun _ => rfl, fun ⟨fs, h⟩ => by cases h⟩⟩, Tryz.underlying139, rfl⟩
theorem tok149 : TIOk Tryz.prog 149 ti149 := ⟨⟨Tryz.t149, by kernel_rfl, rfl, rfl, ⟨_, rfl, rfl, fun _ => rfl, fun ⟨fs, h⟩ => by cases h⟩⟩, Tryz.underlying149, rfl⟩
theorem tok155 : TIOk Tryz.prog 155 ti155 := ⟨⟨Tryz.t155, by kernel_rfl, rfl, rfl, ⟨_, rfl, rfl, fun _ => rfl, fun ⟨fs, h⟩ => by cases h⟩⟩, Tryz.underlying155, rfl⟩
def T : TT := tcons 3 ti3 (tcons 9 ti9 (tcons 5 ti5 (tcons 42 ti42 (tcons 21 ti21 (tcons 25 ti25 (tcons 4 ti4 (tcons 1 ti1 (tcons 63 ti63 (tcons 36 ti36 (tcons 2 ti2 (tcons 120 ti120 (tcons 29 ti29 (tcons 65 ti65 (tcons 77 ti77 (tcons 24 ti24 (tcons 149 ti149 (tcons 54 ti54 (tcons 12 ti12 (tcons 70 ti70 (tcons 22 ti22 (tcons 52 ti52 (tcons 108 ti108 (tcons 155 ti155 (tcons 66 ti66 (tcons 139 ti139 (tcons 110 ti110 (tcons 137 ti137 (tcons 107 ti107 (tcons 130 ti130 (tcons 95 ti95 (tcons 125 ti125 (tcons 88 ti88 (tcons 75 ti75 (tcons 81 ti81 (tcons 117 ti117 (tcons 68 ti68 (tcons 73 ti73 (tcons 6 ti6 (tcons 17 ti17 (tcons 131 ti131 (fun _ => none)))))))))))))))))))))))))))))))))))))))))
theorem tOk : TOk Tryz.prog T := TOk.cons tok3 (TOk.cons tok9 (TOk.cons tok5 (TOk.cons tok42 (TOk.cons tok21 (TOk.cons tok25 (TOk.cons tok4 (TOk.cons tok1 (TOk.cons tok63 (TOk.cons tok36 (TOk.cons tok2 (TOk.cons tok120 (TOk.cons tok29 (TOk.cons tok65 (TOk.cons tok77 (TOk.cons tok24 (TOk.cons tok149 (TOk.cons tok54 (TOk.cons tok12 (TOk.cons tok70 (TOk.cons tok22 (TOk.cons tok52 (TOk.cons tok108 (TOk.cons tok155 (TOk.cons tok66 (TOk.cons tok139 (TOk.cons tok110 (TOk.cons tok137 (TOk.cons tok107 (TOk.cons tok130 (TOk.cons tok95 (TOk.cons tok125 (TOk.cons tok88 (TOk.cons tok75 (TOk.cons tok81 (TOk.cons tok117 (TOk.cons tok68 (TOk.cons tok73 (TOk.cons tok6 (TOk.cons tok17 (TOk.cons tok131 (TOk.nil)))))))))))))))))))))))))))))))))))))))))
theorem mixed : Tryz.prog.follows .mixedOrders = true := by kernel_rfl
end Go.Proofs.YtceoldiblphahaaGreatDoor
