/- What the program says of its types. Printed by a program of mine. -/
import Derived.Test.YtcaeoebphfjfiaaProg
import Derived.KernelRfl
namespace Go.Proofs.Ytcaeoebphfjfiaa.Am
open Go
theorem inf3 : (Try.prog.info? 3).map (fun i => (i.zero, i.size, i.bytes)) = some (some (.int .i64 0), 1, 8) := by kernel_rfl
theorem inf3.size : (Try.prog.info? 3).map (·.size) = some 1 := by kernel_rfl
theorem inf3.zero : (Try.prog.info? 3).map (·.zero) = some (some (.int .i64 0)) := by kernel_rfl
theorem inf4 : (Try.prog.info? 4).map (fun i => (i.zero, i.size, i.bytes)) = some (some (.bool false), 1, 1) := by kernel_rfl
theorem inf4.size : (Try.prog.info? 4).map (·.size) = some 1 := by kernel_rfl
theorem inf4.zero : (Try.prog.info? 4).map (·.zero) = some (some (.bool false)) := by kernel_rfl
theorem inf9 : (Try.prog.info? 9).map (fun i => (i.zero, i.size, i.bytes)) = some (some (.string ByteArray.empty), 1, 16) := by kernel_rfl
theorem inf9.size : (Try.prog.info? 9).map (·.size) = some 1 := by kernel_rfl
theorem inf9.zero : (Try.prog.info? 9).map (·.zero) = some (some (.string ByteArray.empty)) := by kernel_rfl
theorem inf22 : (Try.prog.info? 22).map (fun i => (i.zero, i.size, i.bytes)) = some (some (.slice none 0 0), 1, 24) := by kernel_rfl
theorem inf22.size : (Try.prog.info? 22).map (·.size) = some 1 := by kernel_rfl
theorem inf22.zero : (Try.prog.info? 22).map (·.zero) = some (some (.slice none 0 0)) := by kernel_rfl
theorem inf23 : (Try.prog.info? 23).map (fun i => (i.zero, i.size, i.bytes)) = some (some (.slice none 0 0), 1, 24) := by kernel_rfl
theorem inf23.size : (Try.prog.info? 23).map (·.size) = some 1 := by kernel_rfl
theorem inf23.zero : (Try.prog.info? 23).map (·.zero) = some (some (.slice none 0 0)) := by kernel_rfl
theorem inf24 : (Try.prog.info? 24).map (fun i => (i.zero, i.size, i.bytes)) = some (some (.slice none 0 0), 1, 24) := by kernel_rfl
theorem inf24.size : (Try.prog.info? 24).map (·.size) = some 1 := by kernel_rfl
theorem inf24.zero : (Try.prog.info? 24).map (·.zero) = some (some (.slice none 0 0)) := by kernel_rfl
theorem inf26 : (Try.prog.info? 26).map (fun i => (i.zero, i.size, i.bytes)) = some (some (.agg #[.slice none 0 0, .slice none 0 0, .slice none 0 0, .slice none 0 0, .slice none 0 0]), 5, 120) := by kernel_rfl
theorem inf26.size : (Try.prog.info? 26).map (·.size) = some 5 := by kernel_rfl
theorem inf26.zero : (Try.prog.info? 26).map (·.zero) = some (some (.agg #[.slice none 0 0, .slice none 0 0, .slice none 0 0, .slice none 0 0, .slice none 0 0])) := by kernel_rfl
theorem inf27 : (Try.prog.info? 27).map (fun i => (i.zero, i.size, i.bytes)) = some (some (.slice none 0 0), 1, 24) := by kernel_rfl
theorem inf27.size : (Try.prog.info? 27).map (·.size) = some 1 := by kernel_rfl
theorem inf27.zero : (Try.prog.info? 27).map (·.zero) = some (some (.slice none 0 0)) := by kernel_rfl
theorem inf29 : (Try.prog.info? 29).map (fun i => (i.zero, i.size, i.bytes)) = some (some (.agg #[.slice none 0 0, .slice none 0 0]), 2, 48) := by kernel_rfl
theorem inf29.size : (Try.prog.info? 29).map (·.size) = some 2 := by kernel_rfl
theorem inf29.zero : (Try.prog.info? 29).map (·.zero) = some (some (.agg #[.slice none 0 0, .slice none 0 0])) := by kernel_rfl
theorem inf33 : (Try.prog.info? 33).map (fun i => (i.zero, i.size, i.bytes)) = some (some (.pointer none), 1, 8) := by kernel_rfl
theorem inf33.size : (Try.prog.info? 33).map (·.size) = some 1 := by kernel_rfl
theorem inf33.zero : (Try.prog.info? 33).map (·.zero) = some (some (.pointer none)) := by kernel_rfl
theorem inf42 : (Try.prog.info? 42).map (fun i => (i.zero, i.size, i.bytes)) = some (some (.int .u64 0), 1, 8) := by kernel_rfl
theorem inf42.size : (Try.prog.info? 42).map (·.size) = some 1 := by kernel_rfl
theorem inf42.zero : (Try.prog.info? 42).map (·.zero) = some (some (.int .u64 0)) := by kernel_rfl
theorem inf50 : (Try.prog.info? 50).map (fun i => (i.zero, i.size, i.bytes)) = some (some (.slice none 0 0), 1, 24) := by kernel_rfl
theorem inf50.size : (Try.prog.info? 50).map (·.size) = some 1 := by kernel_rfl
theorem inf50.zero : (Try.prog.info? 50).map (·.zero) = some (some (.slice none 0 0)) := by kernel_rfl
theorem inf54 : (Try.prog.info? 54).map (fun i => (i.zero, i.size, i.bytes)) = some (some (.agg #[.int .i64 0, .int .i64 0, .int .i64 0, .int .u64 0]), 4, 32) := by kernel_rfl
theorem inf54.size : (Try.prog.info? 54).map (·.size) = some 4 := by kernel_rfl
theorem inf54.zero : (Try.prog.info? 54).map (·.zero) = some (some (.agg #[.int .i64 0, .int .i64 0, .int .i64 0, .int .u64 0])) := by kernel_rfl
theorem inf87 : (Try.prog.info? 87).map (fun i => (i.zero, i.size, i.bytes)) = some (some (.map none), 1, 8) := by kernel_rfl
theorem inf87.size : (Try.prog.info? 87).map (·.size) = some 1 := by kernel_rfl
theorem inf87.zero : (Try.prog.info? 87).map (·.zero) = some (some (.map none)) := by kernel_rfl
theorem inf89 : (Try.prog.info? 89).map (fun i => (i.zero, i.size, i.bytes)) = some (some (.agg #[.slice none 0 0, .slice none 0 0, .slice none 0 0, .map none]), 4, 80) := by kernel_rfl
theorem inf89.size : (Try.prog.info? 89).map (·.size) = some 4 := by kernel_rfl
theorem inf89.zero : (Try.prog.info? 89).map (·.zero) = some (some (.agg #[.slice none 0 0, .slice none 0 0, .slice none 0 0, .map none])) := by kernel_rfl
theorem inf99 : (Try.prog.info? 99).map (fun i => (i.zero, i.size, i.bytes)) = some (some (.map none), 1, 8) := by kernel_rfl
theorem inf99.size : (Try.prog.info? 99).map (·.size) = some 1 := by kernel_rfl
theorem inf99.zero : (Try.prog.info? 99).map (·.zero) = some (some (.map none)) := by kernel_rfl
theorem inf101 : (Try.prog.info? 101).map (fun i => (i.zero, i.size, i.bytes)) = some (some (.agg #[.pointer none, .map none, .map none]), 3, 24) := by kernel_rfl
theorem inf101.size : (Try.prog.info? 101).map (·.size) = some 3 := by kernel_rfl
theorem inf101.zero : (Try.prog.info? 101).map (·.zero) = some (some (.agg #[.pointer none, .map none, .map none])) := by kernel_rfl
theorem inf111 : (Try.prog.info? 111).map (fun i => (i.zero, i.size, i.bytes)) = some (some (.agg #[.int .i64 0, .int .i64 0]), 2, 16) := by kernel_rfl
theorem inf111.size : (Try.prog.info? 111).map (·.size) = some 2 := by kernel_rfl
theorem inf111.zero : (Try.prog.info? 111).map (·.zero) = some (some (.agg #[.int .i64 0, .int .i64 0])) := by kernel_rfl
theorem inf113 : (Try.prog.info? 113).map (fun i => (i.zero, i.size, i.bytes)) = some (some (.agg #[.int .i64 0, .int .i64 0]), 2, 16) := by kernel_rfl
theorem inf113.size : (Try.prog.info? 113).map (·.size) = some 2 := by kernel_rfl
theorem inf113.zero : (Try.prog.info? 113).map (·.zero) = some (some (.agg #[.int .i64 0, .int .i64 0])) := by kernel_rfl
theorem inf120 : (Try.prog.info? 120).map (fun i => (i.zero, i.size, i.bytes)) = some (some (.agg #[.int .i64 0, .int .i64 0]), 2, 16) := by kernel_rfl
theorem inf120.size : (Try.prog.info? 120).map (·.size) = some 2 := by kernel_rfl
theorem inf120.zero : (Try.prog.info? 120).map (·.zero) = some (some (.agg #[.int .i64 0, .int .i64 0])) := by kernel_rfl
end Go.Proofs.Ytcaeoebphfjfiaa.Am
