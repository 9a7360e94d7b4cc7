/- What the program says of its types. Printed by a program of mine. -/
import Derived.Test.YtmakkmcjocjgmaaGreatProg
import Derived.KernelRfl
namespace Go.Proofs.YtmakkmcjocjgmaaGreat.Am
open Go
theorem inf3 : (Tryz.prog.info? 3).map (fun i => (i.zero, i.size, i.bytes)) = some (some (.int .i64 0), 1, 8) := by kernel_rfl
theorem inf3.size : (Tryz.prog.info? 3).map (·.size) = some 1 := by kernel_rfl
theorem inf3.zero : (Tryz.prog.info? 3).map (·.zero) = some (some (.int .i64 0)) := by kernel_rfl
theorem inf4 : (Tryz.prog.info? 4).map (fun i => (i.zero, i.size, i.bytes)) = some (some (.bool false), 1, 1) := by kernel_rfl
theorem inf4.size : (Tryz.prog.info? 4).map (·.size) = some 1 := by kernel_rfl
theorem inf4.zero : (Tryz.prog.info? 4).map (·.zero) = some (some (.bool false)) := by kernel_rfl
theorem inf5 : (Tryz.prog.info? 5).map (fun i => (i.zero, i.size, i.bytes)) = some (some (.int .u8 0), 1, 1) := by kernel_rfl
theorem inf5.size : (Tryz.prog.info? 5).map (·.size) = some 1 := by kernel_rfl
theorem inf5.zero : (Tryz.prog.info? 5).map (·.zero) = some (some (.int .u8 0)) := by kernel_rfl
theorem inf9 : (Tryz.prog.info? 9).map (fun i => (i.zero, i.size, i.bytes)) = some (some (.string ByteArray.empty), 1, 16) := by kernel_rfl
theorem inf9.size : (Tryz.prog.info? 9).map (·.size) = some 1 := by kernel_rfl
theorem inf9.zero : (Tryz.prog.info? 9).map (·.zero) = some (some (.string ByteArray.empty)) := by kernel_rfl
theorem inf22 : (Tryz.prog.info? 22).map (fun i => (i.zero, i.size, i.bytes)) = some (some (.slice none 0 0), 1, 24) := by kernel_rfl
theorem inf22.size : (Tryz.prog.info? 22).map (·.size) = some 1 := by kernel_rfl
theorem inf22.zero : (Tryz.prog.info? 22).map (·.zero) = some (some (.slice none 0 0)) := by kernel_rfl
theorem inf23 : (Tryz.prog.info? 23).map (fun i => (i.zero, i.size, i.bytes)) = some (some (.slice none 0 0), 1, 24) := by kernel_rfl
theorem inf23.size : (Tryz.prog.info? 23).map (·.size) = some 1 := by kernel_rfl
theorem inf23.zero : (Tryz.prog.info? 23).map (·.zero) = some (some (.slice none 0 0)) := by kernel_rfl
theorem inf24 : (Tryz.prog.info? 24).map (fun i => (i.zero, i.size, i.bytes)) = some (some (.slice none 0 0), 1, 24) := by kernel_rfl
theorem inf24.size : (Tryz.prog.info? 24).map (·.size) = some 1 := by kernel_rfl
theorem inf24.zero : (Tryz.prog.info? 24).map (·.zero) = some (some (.slice none 0 0)) := by kernel_rfl
theorem inf26 : (Tryz.prog.info? 26).map (fun i => (i.zero, i.size, i.bytes)) = some (some (.agg #[.slice none 0 0, .slice none 0 0, .slice none 0 0, .slice none 0 0, .slice none 0 0]), 5, 120) := by kernel_rfl
theorem inf26.size : (Tryz.prog.info? 26).map (·.size) = some 5 := by kernel_rfl
theorem inf26.zero : (Tryz.prog.info? 26).map (·.zero) = some (some (.agg #[.slice none 0 0, .slice none 0 0, .slice none 0 0, .slice none 0 0, .slice none 0 0])) := by kernel_rfl
theorem inf27 : (Tryz.prog.info? 27).map (fun i => (i.zero, i.size, i.bytes)) = some (some (.slice none 0 0), 1, 24) := by kernel_rfl
theorem inf27.size : (Tryz.prog.info? 27).map (·.size) = some 1 := by kernel_rfl
theorem inf27.zero : (Tryz.prog.info? 27).map (·.zero) = some (some (.slice none 0 0)) := by kernel_rfl
theorem inf29 : (Tryz.prog.info? 29).map (fun i => (i.zero, i.size, i.bytes)) = some (some (.agg #[.slice none 0 0, .slice none 0 0]), 2, 48) := by kernel_rfl
theorem inf29.size : (Tryz.prog.info? 29).map (·.size) = some 2 := by kernel_rfl
theorem inf29.zero : (Tryz.prog.info? 29).map (·.zero) = some (some (.agg #[.slice none 0 0, .slice none 0 0])) := by kernel_rfl
theorem inf30 : (Tryz.prog.info? 30).map (fun i => (i.zero, i.size, i.bytes)) = some (some (.int .u64 0), 1, 8) := by kernel_rfl
theorem inf30.size : (Tryz.prog.info? 30).map (·.size) = some 1 := by kernel_rfl
theorem inf30.zero : (Tryz.prog.info? 30).map (·.zero) = some (some (.int .u64 0)) := by kernel_rfl
theorem inf31 : (Tryz.prog.info? 31).map (fun i => (i.zero, i.size, i.bytes)) = some (some (.slice none 0 0), 1, 24) := by kernel_rfl
theorem inf31.size : (Tryz.prog.info? 31).map (·.size) = some 1 := by kernel_rfl
theorem inf31.zero : (Tryz.prog.info? 31).map (·.zero) = some (some (.slice none 0 0)) := by kernel_rfl
theorem inf33 : (Tryz.prog.info? 33).map (fun i => (i.zero, i.size, i.bytes)) = some (some (.agg #[.int .i64 0, .bool false, .slice none 0 0, .int .u64 0, .slice none 0 0]), 5, 72) := by kernel_rfl
theorem inf33.size : (Tryz.prog.info? 33).map (·.size) = some 5 := by kernel_rfl
theorem inf33.zero : (Tryz.prog.info? 33).map (·.zero) = some (some (.agg #[.int .i64 0, .bool false, .slice none 0 0, .int .u64 0, .slice none 0 0])) := by kernel_rfl
theorem inf37 : (Tryz.prog.info? 37).map (fun i => (i.zero, i.size, i.bytes)) = some (some (.pointer none), 1, 8) := by kernel_rfl
theorem inf37.size : (Tryz.prog.info? 37).map (·.size) = some 1 := by kernel_rfl
theorem inf37.zero : (Tryz.prog.info? 37).map (·.zero) = some (some (.pointer none)) := by kernel_rfl
theorem inf46 : (Tryz.prog.info? 46).map (fun i => (i.zero, i.size, i.bytes)) = some (some (.agg #[.slice none 0 0, .int .i64 0, .int .u64 0]), 3, 40) := by kernel_rfl
theorem inf46.size : (Tryz.prog.info? 46).map (·.size) = some 3 := by kernel_rfl
theorem inf46.zero : (Tryz.prog.info? 46).map (·.zero) = some (some (.agg #[.slice none 0 0, .int .i64 0, .int .u64 0])) := by kernel_rfl
theorem inf54 : (Tryz.prog.info? 54).map (fun i => (i.zero, i.size, i.bytes)) = some (some (.agg #[.slice none 0 0, .int .i64 0, .int .u64 0]), 3, 40) := by kernel_rfl
theorem inf54.size : (Tryz.prog.info? 54).map (·.size) = some 3 := by kernel_rfl
theorem inf54.zero : (Tryz.prog.info? 54).map (·.zero) = some (some (.agg #[.slice none 0 0, .int .i64 0, .int .u64 0])) := by kernel_rfl
theorem inf83 : (Tryz.prog.info? 83).map (fun i => (i.zero, i.size, i.bytes)) = some (some (.slice none 0 0), 1, 24) := by kernel_rfl
theorem inf83.size : (Tryz.prog.info? 83).map (·.size) = some 1 := by kernel_rfl
theorem inf83.zero : (Tryz.prog.info? 83).map (·.zero) = some (some (.slice none 0 0)) := by kernel_rfl
theorem inf89 : (Tryz.prog.info? 89).map (fun i => (i.zero, i.size, i.bytes)) = some (some (.map none), 1, 8) := by kernel_rfl
theorem inf89.size : (Tryz.prog.info? 89).map (·.size) = some 1 := by kernel_rfl
theorem inf89.zero : (Tryz.prog.info? 89).map (·.zero) = some (some (.map none)) := by kernel_rfl
theorem inf91 : (Tryz.prog.info? 91).map (fun i => (i.zero, i.size, i.bytes)) = some (some (.agg #[.slice none 0 0, .slice none 0 0, .slice none 0 0, .map none]), 4, 80) := by kernel_rfl
theorem inf91.size : (Tryz.prog.info? 91).map (·.size) = some 4 := by kernel_rfl
theorem inf91.zero : (Tryz.prog.info? 91).map (·.zero) = some (some (.agg #[.slice none 0 0, .slice none 0 0, .slice none 0 0, .map none])) := by kernel_rfl
theorem inf96 : (Tryz.prog.info? 96).map (fun i => (i.zero, i.size, i.bytes)) = some (some (.agg #[.int .i64 0, .int .i64 0, .int .i64 0, .int .u64 0]), 4, 32) := by kernel_rfl
theorem inf96.size : (Tryz.prog.info? 96).map (·.size) = some 4 := by kernel_rfl
theorem inf96.zero : (Tryz.prog.info? 96).map (·.zero) = some (some (.agg #[.int .i64 0, .int .i64 0, .int .i64 0, .int .u64 0])) := by kernel_rfl
theorem inf131 : (Tryz.prog.info? 131).map (fun i => (i.zero, i.size, i.bytes)) = some (some (.agg #[.int .i64 0, .int .i64 0]), 2, 16) := by kernel_rfl
theorem inf131.size : (Tryz.prog.info? 131).map (·.size) = some 2 := by kernel_rfl
theorem inf131.zero : (Tryz.prog.info? 131).map (·.zero) = some (some (.agg #[.int .i64 0, .int .i64 0])) := by kernel_rfl
theorem inf133 : (Tryz.prog.info? 133).map (fun i => (i.zero, i.size, i.bytes)) = some (some (.agg #[.int .i64 0, .int .i64 0]), 2, 16) := by kernel_rfl
theorem inf133.size : (Tryz.prog.info? 133).map (·.size) = some 2 := by kernel_rfl
theorem inf133.zero : (Tryz.prog.info? 133).map (·.zero) = some (some (.agg #[.int .i64 0, .int .i64 0])) := by kernel_rfl
theorem inf167 : (Tryz.prog.info? 167).map (fun i => (i.zero, i.size, i.bytes)) = some (some (.agg #[.pointer none, .slice none 0 0, .bool false, .bool false, .int .i64 0]), 5, 48) := by kernel_rfl
theorem inf167.size : (Tryz.prog.info? 167).map (·.size) = some 5 := by kernel_rfl
theorem inf167.zero : (Tryz.prog.info? 167).map (·.zero) = some (some (.agg #[.pointer none, .slice none 0 0, .bool false, .bool false, .int .i64 0])) := by kernel_rfl
end Go.Proofs.YtmakkmcjocjgmaaGreat.Am
