/- What the program says of its types. Printed by a program of mine. -/
import Derived.Test.YtnkjikpmgeknbaaProg
import Derived.KernelRfl
namespace Go.Proofs.Ytnkjikpmgeknbaa.Am
open Go
theorem inf3 : (Try.prog.info? 3).map (fun i => (i.zero, i.size, i.bytes)) = some (some (.int .i64 0), 1, 8) := by kernel_rfl
theorem inf3.size : (Try.prog.info? 3).map (·.size) = some 1 := by kernel_rfl
theorem inf3.zero : (Try.prog.info? 3).map (·.zero) = some (some (.int .i64 0)) := by kernel_rfl
theorem inf4 : (Try.prog.info? 4).map (fun i => (i.zero, i.size, i.bytes)) = some (some (.bool false), 1, 1) := by kernel_rfl
theorem inf4.size : (Try.prog.info? 4).map (·.size) = some 1 := by kernel_rfl
theorem inf4.zero : (Try.prog.info? 4).map (·.zero) = some (some (.bool false)) := by kernel_rfl
theorem inf9 : (Try.prog.info? 9).map (fun i => (i.zero, i.size, i.bytes)) = some (some (.string ByteArray.empty), 1, 16) := by kernel_rfl
theorem inf9.size : (Try.prog.info? 9).map (·.size) = some 1 := by kernel_rfl
theorem inf9.zero : (Try.prog.info? 9).map (·.zero) = some (some (.string ByteArray.empty)) := by kernel_rfl
theorem inf22 : (Try.prog.info? 22).map (fun i => (i.zero, i.size, i.bytes)) = some (some (.slice none 0 0), 1, 24) := by kernel_rfl
theorem inf22.size : (Try.prog.info? 22).map (·.size) = some 1 := by kernel_rfl
theorem inf22.zero : (Try.prog.info? 22).map (·.zero) = some (some (.slice none 0 0)) := by kernel_rfl
theorem inf26 : (Try.prog.info? 26).map (fun i => (i.zero, i.size, i.bytes)) = some (some (.int .u64 0), 1, 8) := by kernel_rfl
theorem inf26.size : (Try.prog.info? 26).map (·.size) = some 1 := by kernel_rfl
theorem inf26.zero : (Try.prog.info? 26).map (·.zero) = some (some (.int .u64 0)) := by kernel_rfl
theorem inf28 : (Try.prog.info? 28).map (fun i => (i.zero, i.size, i.bytes)) = some (some (.agg #[.int .i64 0, .int .i64 0, .int .i64 0, .int .u64 0]), 4, 32) := by kernel_rfl
theorem inf28.size : (Try.prog.info? 28).map (·.size) = some 4 := by kernel_rfl
theorem inf28.zero : (Try.prog.info? 28).map (·.zero) = some (some (.agg #[.int .i64 0, .int .i64 0, .int .i64 0, .int .u64 0])) := by kernel_rfl
theorem inf29 : (Try.prog.info? 29).map (fun i => (i.zero, i.size, i.bytes)) = some (some (.slice none 0 0), 1, 24) := by kernel_rfl
theorem inf29.size : (Try.prog.info? 29).map (·.size) = some 1 := by kernel_rfl
theorem inf29.zero : (Try.prog.info? 29).map (·.zero) = some (some (.slice none 0 0)) := by kernel_rfl
theorem inf59 : (Try.prog.info? 59).map (fun i => (i.zero, i.size, i.bytes)) = some (some (.slice none 0 0), 1, 24) := by kernel_rfl
theorem inf59.size : (Try.prog.info? 59).map (·.size) = some 1 := by kernel_rfl
theorem inf59.zero : (Try.prog.info? 59).map (·.zero) = some (some (.slice none 0 0)) := by kernel_rfl
theorem inf60 : (Try.prog.info? 60).map (fun i => (i.zero, i.size, i.bytes)) = some (some (.slice none 0 0), 1, 24) := by kernel_rfl
theorem inf60.size : (Try.prog.info? 60).map (·.size) = some 1 := by kernel_rfl
theorem inf60.zero : (Try.prog.info? 60).map (·.zero) = some (some (.slice none 0 0)) := by kernel_rfl
theorem inf62 : (Try.prog.info? 62).map (fun i => (i.zero, i.size, i.bytes)) = some (some (.agg #[.slice none 0 0, .slice none 0 0, .slice none 0 0, .slice none 0 0, .slice none 0 0]), 5, 120) := by kernel_rfl
theorem inf62.size : (Try.prog.info? 62).map (·.size) = some 5 := by kernel_rfl
theorem inf62.zero : (Try.prog.info? 62).map (·.zero) = some (some (.agg #[.slice none 0 0, .slice none 0 0, .slice none 0 0, .slice none 0 0, .slice none 0 0])) := by kernel_rfl
theorem inf63 : (Try.prog.info? 63).map (fun i => (i.zero, i.size, i.bytes)) = some (some (.slice none 0 0), 1, 24) := by kernel_rfl
theorem inf63.size : (Try.prog.info? 63).map (·.size) = some 1 := by kernel_rfl
theorem inf63.zero : (Try.prog.info? 63).map (·.zero) = some (some (.slice none 0 0)) := by kernel_rfl
theorem inf65 : (Try.prog.info? 65).map (fun i => (i.zero, i.size, i.bytes)) = some (some (.agg #[.slice none 0 0, .slice none 0 0]), 2, 48) := by kernel_rfl
theorem inf65.size : (Try.prog.info? 65).map (·.size) = some 2 := by kernel_rfl
theorem inf65.zero : (Try.prog.info? 65).map (·.zero) = some (some (.agg #[.slice none 0 0, .slice none 0 0])) := by kernel_rfl
theorem inf152 : (Try.prog.info? 152).map (fun i => (i.zero, i.size, i.bytes)) = some (some (.agg #[.slice none 0 0, .int .i64 0, .int .u64 0]), 3, 40) := by kernel_rfl
theorem inf152.size : (Try.prog.info? 152).map (·.size) = some 3 := by kernel_rfl
theorem inf152.zero : (Try.prog.info? 152).map (·.zero) = some (some (.agg #[.slice none 0 0, .int .i64 0, .int .u64 0])) := by kernel_rfl
end Go.Proofs.Ytnkjikpmgeknbaa.Am
