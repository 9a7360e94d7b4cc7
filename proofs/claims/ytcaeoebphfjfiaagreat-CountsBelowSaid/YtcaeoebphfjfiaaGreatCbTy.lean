/- What the program says of its types. Printed by a program of mine. -/
import Derived.Test.YtcaeoebphfjfiaaGreatProg
import Derived.KernelRfl
namespace Go.Proofs.YtcaeoebphfjfiaaGreat.Am
open Go
theorem inf3 : (Tryz.prog.info? 3).map (fun i => (i.zero, i.size, i.bytes)) = some (some (.int .i64 0), 1, 8) := by kernel_rfl
theorem inf3.size : (Tryz.prog.info? 3).map (·.size) = some 1 := by kernel_rfl
theorem inf3.zero : (Tryz.prog.info? 3).map (·.zero) = some (some (.int .i64 0)) := by kernel_rfl
theorem inf4 : (Tryz.prog.info? 4).map (fun i => (i.zero, i.size, i.bytes)) = some (some (.bool false), 1, 1) := by kernel_rfl
theorem inf4.size : (Tryz.prog.info? 4).map (·.size) = some 1 := by kernel_rfl
theorem inf4.zero : (Tryz.prog.info? 4).map (·.zero) = some (some (.bool false)) := by kernel_rfl
theorem inf9 : (Tryz.prog.info? 9).map (fun i => (i.zero, i.size, i.bytes)) = some (some (.string ByteArray.empty), 1, 16) := by kernel_rfl
theorem inf9.size : (Tryz.prog.info? 9).map (·.size) = some 1 := by kernel_rfl
theorem inf9.zero : (Tryz.prog.info? 9).map (·.zero) = some (some (.string ByteArray.empty)) := by kernel_rfl
theorem inf22 : (Tryz.prog.info? 22).map (fun i => (i.zero, i.size, i.bytes)) = some (some (.slice none 0 0), 1, 24) := by kernel_rfl
theorem inf22.size : (Tryz.prog.info? 22).map (·.size) = some 1 := by kernel_rfl
theorem inf22.zero : (Tryz.prog.info? 22).map (·.zero) = some (some (.slice none 0 0)) := by kernel_rfl
theorem inf23 : (Tryz.prog.info? 23).map (fun i => (i.zero, i.size, i.bytes)) = some (some (.slice none 0 0), 1, 24) := by kernel_rfl
theorem inf23.size : (Tryz.prog.info? 23).map (·.size) = some 1 := by kernel_rfl
theorem inf23.zero : (Tryz.prog.info? 23).map (·.zero) = some (some (.slice none 0 0)) := by kernel_rfl
theorem inf24 : (Tryz.prog.info? 24).map (fun i => (i.zero, i.size, i.bytes)) = some (some (.slice none 0 0), 1, 24) := by kernel_rfl
theorem inf24.size : (Tryz.prog.info? 24).map (·.size) = some 1 := by kernel_rfl
theorem inf24.zero : (Tryz.prog.info? 24).map (·.zero) = some (some (.slice none 0 0)) := by kernel_rfl
theorem inf26 : (Tryz.prog.info? 26).map (fun i => (i.zero, i.size, i.bytes)) = some (some (.agg #[.slice none 0 0, .slice none 0 0, .slice none 0 0, .slice none 0 0, .slice none 0 0]), 5, 120) := by kernel_rfl
theorem inf26.size : (Tryz.prog.info? 26).map (·.size) = some 5 := by kernel_rfl
theorem inf26.zero : (Tryz.prog.info? 26).map (·.zero) = some (some (.agg #[.slice none 0 0, .slice none 0 0, .slice none 0 0, .slice none 0 0, .slice none 0 0])) := by kernel_rfl
theorem inf27 : (Tryz.prog.info? 27).map (fun i => (i.zero, i.size, i.bytes)) = some (some (.slice none 0 0), 1, 24) := by kernel_rfl
theorem inf27.size : (Tryz.prog.info? 27).map (·.size) = some 1 := by kernel_rfl
theorem inf27.zero : (Tryz.prog.info? 27).map (·.zero) = some (some (.slice none 0 0)) := by kernel_rfl
theorem inf29 : (Tryz.prog.info? 29).map (fun i => (i.zero, i.size, i.bytes)) = some (some (.agg #[.slice none 0 0, .slice none 0 0]), 2, 48) := by kernel_rfl
theorem inf29.size : (Tryz.prog.info? 29).map (·.size) = some 2 := by kernel_rfl
theorem inf29.zero : (Tryz.prog.info? 29).map (·.zero) = some (some (.agg #[.slice none 0 0, .slice none 0 0])) := by kernel_rfl
theorem inf32 : (Tryz.prog.info? 32).map (fun i => (i.zero, i.size, i.bytes)) = some (some (.pointer none), 1, 8) := by kernel_rfl
theorem inf32.size : (Tryz.prog.info? 32).map (·.size) = some 1 := by kernel_rfl
theorem inf32.zero : (Tryz.prog.info? 32).map (·.zero) = some (some (.pointer none)) := by kernel_rfl
theorem inf42 : (Tryz.prog.info? 42).map (fun i => (i.zero, i.size, i.bytes)) = some (some (.int .u64 0), 1, 8) := by kernel_rfl
theorem inf42.size : (Tryz.prog.info? 42).map (·.size) = some 1 := by kernel_rfl
theorem inf42.zero : (Tryz.prog.info? 42).map (·.zero) = some (some (.int .u64 0)) := by kernel_rfl
theorem inf49 : (Tryz.prog.info? 49).map (fun i => (i.zero, i.size, i.bytes)) = some (some (.agg #[.slice none 0 0, .int .i64 0, .int .u64 0]), 3, 40) := by kernel_rfl
theorem inf49.size : (Tryz.prog.info? 49).map (·.size) = some 3 := by kernel_rfl
theorem inf49.zero : (Tryz.prog.info? 49).map (·.zero) = some (some (.agg #[.slice none 0 0, .int .i64 0, .int .u64 0])) := by kernel_rfl
theorem inf68 : (Tryz.prog.info? 68).map (fun i => (i.zero, i.size, i.bytes)) = some (some (.slice none 0 0), 1, 24) := by kernel_rfl
theorem inf68.size : (Tryz.prog.info? 68).map (·.size) = some 1 := by kernel_rfl
theorem inf68.zero : (Tryz.prog.info? 68).map (·.zero) = some (some (.slice none 0 0)) := by kernel_rfl
theorem inf71 : (Tryz.prog.info? 71).map (fun i => (i.zero, i.size, i.bytes)) = some (some (.map none), 1, 8) := by kernel_rfl
theorem inf71.size : (Tryz.prog.info? 71).map (·.size) = some 1 := by kernel_rfl
theorem inf71.zero : (Tryz.prog.info? 71).map (·.zero) = some (some (.map none)) := by kernel_rfl
theorem inf73 : (Tryz.prog.info? 73).map (fun i => (i.zero, i.size, i.bytes)) = some (some (.agg #[.slice none 0 0, .slice none 0 0, .slice none 0 0, .map none]), 4, 80) := by kernel_rfl
theorem inf73.size : (Tryz.prog.info? 73).map (·.size) = some 4 := by kernel_rfl
theorem inf73.zero : (Tryz.prog.info? 73).map (·.zero) = some (some (.agg #[.slice none 0 0, .slice none 0 0, .slice none 0 0, .map none])) := by kernel_rfl
theorem inf78 : (Tryz.prog.info? 78).map (fun i => (i.zero, i.size, i.bytes)) = some (some (.agg #[.int .i64 0, .int .i64 0, .int .i64 0, .int .u64 0]), 4, 32) := by kernel_rfl
theorem inf78.size : (Tryz.prog.info? 78).map (·.size) = some 4 := by kernel_rfl
theorem inf78.zero : (Tryz.prog.info? 78).map (·.zero) = some (some (.agg #[.int .i64 0, .int .i64 0, .int .i64 0, .int .u64 0])) := by kernel_rfl
theorem inf90 : (Tryz.prog.info? 90).map (fun i => (i.zero, i.size, i.bytes)) = some (some (.map none), 1, 8) := by kernel_rfl
theorem inf90.size : (Tryz.prog.info? 90).map (·.size) = some 1 := by kernel_rfl
theorem inf90.zero : (Tryz.prog.info? 90).map (·.zero) = some (some (.map none)) := by kernel_rfl
theorem inf92 : (Tryz.prog.info? 92).map (fun i => (i.zero, i.size, i.bytes)) = some (some (.agg #[.pointer none, .map none, .map none]), 3, 24) := by kernel_rfl
theorem inf92.size : (Tryz.prog.info? 92).map (·.size) = some 3 := by kernel_rfl
theorem inf92.zero : (Tryz.prog.info? 92).map (·.zero) = some (some (.agg #[.pointer none, .map none, .map none])) := by kernel_rfl
theorem inf95 : (Tryz.prog.info? 95).map (fun i => (i.zero, i.size, i.bytes)) = some (some (.agg #[.int .i64 0, .int .i64 0]), 2, 16) := by kernel_rfl
theorem inf95.size : (Tryz.prog.info? 95).map (·.size) = some 2 := by kernel_rfl
theorem inf95.zero : (Tryz.prog.info? 95).map (·.zero) = some (some (.agg #[.int .i64 0, .int .i64 0])) := by kernel_rfl
theorem inf107 : (Tryz.prog.info? 107).map (fun i => (i.zero, i.size, i.bytes)) = some (some (.agg #[.int .i64 0, .int .i64 0]), 2, 16) := by kernel_rfl
theorem inf107.size : (Tryz.prog.info? 107).map (·.size) = some 2 := by kernel_rfl
theorem inf107.zero : (Tryz.prog.info? 107).map (·.zero) = some (some (.agg #[.int .i64 0, .int .i64 0])) := by kernel_rfl
theorem inf109 : (Tryz.prog.info? 109).map (fun i => (i.zero, i.size, i.bytes)) = some (some (.agg #[.int .i64 0, .int .i64 0]), 2, 16) := by kernel_rfl
theorem inf109.size : (Tryz.prog.info? 109).map (·.size) = some 2 := by kernel_rfl
theorem inf109.zero : (Tryz.prog.info? 109).map (·.zero) = some (some (.agg #[.int .i64 0, .int .i64 0])) := by kernel_rfl
end Go.Proofs.YtcaeoebphfjfiaaGreat.Am
