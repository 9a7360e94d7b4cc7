/- What the program says of its types. Printed by a program of mine. -/
import Derived.Test.YtmakkmcjocjgmaaProg
import Derived.KernelRfl
namespace Go.Proofs.Ytmakkmcjocjgmaa.Am
open Go
theorem inf3 : (Try.prog.info? 3).map (fun i => (i.zero, i.size, i.bytes)) = some (some (.int .i64 0), 1, 8) := by kernel_rfl
theorem inf3.size : (Try.prog.info? 3).map (·.size) = some 1 := by kernel_rfl
theorem inf3.zero : (Try.prog.info? 3).map (·.zero) = some (some (.int .i64 0)) := by kernel_rfl
theorem inf4 : (Try.prog.info? 4).map (fun i => (i.zero, i.size, i.bytes)) = some (some (.bool false), 1, 1) := by kernel_rfl
theorem inf4.size : (Try.prog.info? 4).map (·.size) = some 1 := by kernel_rfl
theorem inf4.zero : (Try.prog.info? 4).map (·.zero) = some (some (.bool false)) := by kernel_rfl
theorem inf9 : (Try.prog.info? 9).map (fun i => (i.zero, i.size, i.bytes)) = some (some (.string ByteArray.empty), 1, 16) := by kernel_rfl
theorem inf9.size : (Try.prog.info? 9).map (·.size) = some 1 := by kernel_rfl
theorem inf9.zero : (Try.prog.info? 9).map (·.zero) = some (some (.string ByteArray.empty)) := by kernel_rfl
theorem inf22 : (Try.prog.info? 22).map (fun i => (i.zero, i.size, i.bytes)) = some (some (.int .u64 0), 1, 8) := by kernel_rfl
theorem inf22.size : (Try.prog.info? 22).map (·.size) = some 1 := by kernel_rfl
theorem inf22.zero : (Try.prog.info? 22).map (·.zero) = some (some (.int .u64 0)) := by kernel_rfl
theorem inf33 : (Try.prog.info? 33).map (fun i => (i.zero, i.size, i.bytes)) = some (some (.slice none 0 0), 1, 24) := by kernel_rfl
theorem inf33.size : (Try.prog.info? 33).map (·.size) = some 1 := by kernel_rfl
theorem inf33.zero : (Try.prog.info? 33).map (·.zero) = some (some (.slice none 0 0)) := by kernel_rfl
theorem inf35 : (Try.prog.info? 35).map (fun i => (i.zero, i.size, i.bytes)) = some (some (.agg #[.slice none 0 0, .int .i64 0, .int .u64 0]), 3, 40) := by kernel_rfl
theorem inf35.size : (Try.prog.info? 35).map (·.size) = some 3 := by kernel_rfl
theorem inf35.zero : (Try.prog.info? 35).map (·.zero) = some (some (.agg #[.slice none 0 0, .int .i64 0, .int .u64 0])) := by kernel_rfl
theorem inf44 : (Try.prog.info? 44).map (fun i => (i.zero, i.size, i.bytes)) = some (some (.slice none 0 0), 1, 24) := by kernel_rfl
theorem inf44.size : (Try.prog.info? 44).map (·.size) = some 1 := by kernel_rfl
theorem inf44.zero : (Try.prog.info? 44).map (·.zero) = some (some (.slice none 0 0)) := by kernel_rfl
theorem inf45 : (Try.prog.info? 45).map (fun i => (i.zero, i.size, i.bytes)) = some (some (.slice none 0 0), 1, 24) := by kernel_rfl
theorem inf45.size : (Try.prog.info? 45).map (·.size) = some 1 := by kernel_rfl
theorem inf45.zero : (Try.prog.info? 45).map (·.zero) = some (some (.slice none 0 0)) := by kernel_rfl
theorem inf47 : (Try.prog.info? 47).map (fun i => (i.zero, i.size, i.bytes)) = some (some (.agg #[.slice none 0 0, .slice none 0 0, .slice none 0 0, .slice none 0 0, .slice none 0 0]), 5, 120) := by kernel_rfl
theorem inf47.size : (Try.prog.info? 47).map (·.size) = some 5 := by kernel_rfl
theorem inf47.zero : (Try.prog.info? 47).map (·.zero) = some (some (.agg #[.slice none 0 0, .slice none 0 0, .slice none 0 0, .slice none 0 0, .slice none 0 0])) := by kernel_rfl
theorem inf48 : (Try.prog.info? 48).map (fun i => (i.zero, i.size, i.bytes)) = some (some (.slice none 0 0), 1, 24) := by kernel_rfl
theorem inf48.size : (Try.prog.info? 48).map (·.size) = some 1 := by kernel_rfl
theorem inf48.zero : (Try.prog.info? 48).map (·.zero) = some (some (.slice none 0 0)) := by kernel_rfl
theorem inf50 : (Try.prog.info? 50).map (fun i => (i.zero, i.size, i.bytes)) = some (some (.agg #[.slice none 0 0, .slice none 0 0]), 2, 48) := by kernel_rfl
theorem inf50.size : (Try.prog.info? 50).map (·.size) = some 2 := by kernel_rfl
theorem inf50.zero : (Try.prog.info? 50).map (·.zero) = some (some (.agg #[.slice none 0 0, .slice none 0 0])) := by kernel_rfl
theorem inf53 : (Try.prog.info? 53).map (fun i => (i.zero, i.size, i.bytes)) = some (some (.pointer none), 1, 8) := by kernel_rfl
theorem inf53.size : (Try.prog.info? 53).map (·.size) = some 1 := by kernel_rfl
theorem inf53.zero : (Try.prog.info? 53).map (·.zero) = some (some (.pointer none)) := by kernel_rfl
theorem inf57 : (Try.prog.info? 57).map (fun i => (i.zero, i.size, i.bytes)) = some (some (.pointer none), 1, 8) := by kernel_rfl
theorem inf57.size : (Try.prog.info? 57).map (·.size) = some 1 := by kernel_rfl
theorem inf57.zero : (Try.prog.info? 57).map (·.zero) = some (some (.pointer none)) := by kernel_rfl
theorem inf65 : (Try.prog.info? 65).map (fun i => (i.zero, i.size, i.bytes)) = some (some (.agg #[.pointer none, .pointer none, .slice none 0 0, .int .u64 0, .int .i64 0]), 5, 56) := by kernel_rfl
theorem inf65.size : (Try.prog.info? 65).map (·.size) = some 5 := by kernel_rfl
theorem inf65.zero : (Try.prog.info? 65).map (·.zero) = some (some (.agg #[.pointer none, .pointer none, .slice none 0 0, .int .u64 0, .int .i64 0])) := by kernel_rfl
theorem inf68 : (Try.prog.info? 68).map (fun i => (i.zero, i.size, i.bytes)) = some (some (.slice none 0 0), 1, 24) := by kernel_rfl
theorem inf68.size : (Try.prog.info? 68).map (·.size) = some 1 := by kernel_rfl
theorem inf68.zero : (Try.prog.info? 68).map (·.zero) = some (some (.slice none 0 0)) := by kernel_rfl
theorem inf70 : (Try.prog.info? 70).map (fun i => (i.zero, i.size, i.bytes)) = some (some (.agg #[.int .i64 0, .int .i64 0, .int .i64 0, .int .u64 0]), 4, 32) := by kernel_rfl
theorem inf70.size : (Try.prog.info? 70).map (·.size) = some 4 := by kernel_rfl
theorem inf70.zero : (Try.prog.info? 70).map (·.zero) = some (some (.agg #[.int .i64 0, .int .i64 0, .int .i64 0, .int .u64 0])) := by kernel_rfl
theorem inf73 : (Try.prog.info? 73).map (fun i => (i.zero, i.size, i.bytes)) = some (some (.map none), 1, 8) := by kernel_rfl
theorem inf73.size : (Try.prog.info? 73).map (·.size) = some 1 := by kernel_rfl
theorem inf73.zero : (Try.prog.info? 73).map (·.zero) = some (some (.map none)) := by kernel_rfl
theorem inf75 : (Try.prog.info? 75).map (fun i => (i.zero, i.size, i.bytes)) = some (some (.agg #[.slice none 0 0, .slice none 0 0, .slice none 0 0, .map none]), 4, 80) := by kernel_rfl
theorem inf75.size : (Try.prog.info? 75).map (·.size) = some 4 := by kernel_rfl
theorem inf75.zero : (Try.prog.info? 75).map (·.zero) = some (some (.agg #[.slice none 0 0, .slice none 0 0, .slice none 0 0, .map none])) := by kernel_rfl
theorem inf80 : (Try.prog.info? 80).map (fun i => (i.zero, i.size, i.bytes)) = some (some (.map none), 1, 8) := by kernel_rfl
theorem inf80.size : (Try.prog.info? 80).map (·.size) = some 1 := by kernel_rfl
theorem inf80.zero : (Try.prog.info? 80).map (·.zero) = some (some (.map none)) := by kernel_rfl
theorem inf82 : (Try.prog.info? 82).map (fun i => (i.zero, i.size, i.bytes)) = some (some (.agg #[.pointer none, .map none, .map none]), 3, 24) := by kernel_rfl
theorem inf82.size : (Try.prog.info? 82).map (·.size) = some 3 := by kernel_rfl
theorem inf82.zero : (Try.prog.info? 82).map (·.zero) = some (some (.agg #[.pointer none, .map none, .map none])) := by kernel_rfl
theorem inf99 : (Try.prog.info? 99).map (fun i => (i.zero, i.size, i.bytes)) = some (some (.agg #[.int .i64 0, .int .i64 0]), 2, 16) := by kernel_rfl
theorem inf99.size : (Try.prog.info? 99).map (·.size) = some 2 := by kernel_rfl
theorem inf99.zero : (Try.prog.info? 99).map (·.zero) = some (some (.agg #[.int .i64 0, .int .i64 0])) := by kernel_rfl
theorem inf101 : (Try.prog.info? 101).map (fun i => (i.zero, i.size, i.bytes)) = some (some (.agg #[.int .i64 0, .int .i64 0]), 2, 16) := by kernel_rfl
theorem inf101.size : (Try.prog.info? 101).map (·.size) = some 2 := by kernel_rfl
theorem inf101.zero : (Try.prog.info? 101).map (·.zero) = some (some (.agg #[.int .i64 0, .int .i64 0])) := by kernel_rfl
theorem inf105 : (Try.prog.info? 105).map (fun i => (i.zero, i.size, i.bytes)) = some (some (.agg #[.int .i64 0, .int .i64 0]), 2, 16) := by kernel_rfl
theorem inf105.size : (Try.prog.info? 105).map (·.size) = some 2 := by kernel_rfl
theorem inf105.zero : (Try.prog.info? 105).map (·.zero) = some (some (.agg #[.int .i64 0, .int .i64 0])) := by kernel_rfl
end Go.Proofs.Ytmakkmcjocjgmaa.Am
