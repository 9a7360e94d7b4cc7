/- What the program says of its types. Printed by a program of mine. -/
import Derived.Test.YtnkjikpmgeknbaaProg
import Derived.KernelRfl
namespace Go.Proofs.Ytnkjikpmgeknbaa.Am
open Go
theorem inf0 : (Try.prog.info? 0).map (fun i => (i.zero, i.size, i.bytes)) = some (some (.tuple #[]), 1, 0) := by kernel_rfl
theorem inf0.size : (Try.prog.info? 0).map (·.size) = some 1 := by kernel_rfl
theorem inf0.zero : (Try.prog.info? 0).map (·.zero) = some (some (.tuple #[])) := by kernel_rfl
theorem inf1 : (Try.prog.info? 1).map (fun i => (i.zero, i.size, i.bytes)) = some (some (.nilFunc), 1, 8) := by kernel_rfl
theorem inf1.size : (Try.prog.info? 1).map (·.size) = some 1 := by kernel_rfl
theorem inf1.zero : (Try.prog.info? 1).map (·.zero) = some (some (.nilFunc)) := by kernel_rfl
theorem inf2 : (Try.prog.info? 2).map (fun i => (i.zero, i.size, i.bytes)) = some (some (.int .i64 0), 1, 8) := by kernel_rfl
theorem inf2.size : (Try.prog.info? 2).map (·.size) = some 1 := by kernel_rfl
theorem inf2.zero : (Try.prog.info? 2).map (·.zero) = some (some (.int .i64 0)) := by kernel_rfl
theorem inf3 : (Try.prog.info? 3).map (fun i => (i.zero, i.size, i.bytes)) = some (some (.int .i64 0), 1, 8) := by kernel_rfl
theorem inf3.size : (Try.prog.info? 3).map (·.size) = some 1 := by kernel_rfl
theorem inf3.zero : (Try.prog.info? 3).map (·.zero) = some (some (.int .i64 0)) := by kernel_rfl
theorem inf4 : (Try.prog.info? 4).map (fun i => (i.zero, i.size, i.bytes)) = some (some (.bool false), 1, 1) := by kernel_rfl
theorem inf4.size : (Try.prog.info? 4).map (·.size) = some 1 := by kernel_rfl
theorem inf4.zero : (Try.prog.info? 4).map (·.zero) = some (some (.bool false)) := by kernel_rfl
theorem inf5 : (Try.prog.info? 5).map (fun i => (i.zero, i.size, i.bytes)) = some (some (.int .u8 0), 1, 1) := by kernel_rfl
theorem inf5.size : (Try.prog.info? 5).map (·.size) = some 1 := by kernel_rfl
theorem inf5.zero : (Try.prog.info? 5).map (·.zero) = some (some (.int .u8 0)) := by kernel_rfl
theorem inf6 : (Try.prog.info? 6).map (fun i => (i.zero, i.size, i.bytes)) = some (some (.int .u8 0), 1, 1) := by kernel_rfl
theorem inf6.size : (Try.prog.info? 6).map (·.size) = some 1 := by kernel_rfl
theorem inf6.zero : (Try.prog.info? 6).map (·.zero) = some (some (.int .u8 0)) := by kernel_rfl
theorem inf7 : (Try.prog.info? 7).map (fun i => (i.zero, i.size, i.bytes)) = some (some (.agg #[.int .i64 0, .int .i64 0, .bool false, .int .u8 0]), 4, 24) := by kernel_rfl
theorem inf7.size : (Try.prog.info? 7).map (·.size) = some 4 := by kernel_rfl
theorem inf7.zero : (Try.prog.info? 7).map (·.zero) = some (some (.agg #[.int .i64 0, .int .i64 0, .bool false, .int .u8 0])) := by kernel_rfl
theorem inf8 : (Try.prog.info? 8).map (fun i => (i.zero, i.size, i.bytes)) = some (some (.agg #[.int .i64 0, .int .i64 0, .bool false, .int .u8 0]), 4, 24) := by kernel_rfl
theorem inf8.size : (Try.prog.info? 8).map (·.size) = some 4 := by kernel_rfl
theorem inf8.zero : (Try.prog.info? 8).map (·.zero) = some (some (.agg #[.int .i64 0, .int .i64 0, .bool false, .int .u8 0])) := by kernel_rfl
theorem inf9 : (Try.prog.info? 9).map (fun i => (i.zero, i.size, i.bytes)) = some (some (.string ByteArray.empty), 1, 16) := by kernel_rfl
theorem inf9.size : (Try.prog.info? 9).map (·.size) = some 1 := by kernel_rfl
theorem inf9.zero : (Try.prog.info? 9).map (·.zero) = some (some (.string ByteArray.empty)) := by kernel_rfl
theorem inf10 : (Try.prog.info? 10).map (fun i => (i.zero, i.size, i.bytes)) = some (some (.string ByteArray.empty), 1, 16) := by kernel_rfl
theorem inf10.size : (Try.prog.info? 10).map (·.size) = some 1 := by kernel_rfl
theorem inf10.zero : (Try.prog.info? 10).map (·.zero) = some (some (.string ByteArray.empty)) := by kernel_rfl
theorem inf11 : (Try.prog.info? 11).map (fun i => (i.zero, i.size, i.bytes)) = some (some (.string ByteArray.empty), 1, 16) := by kernel_rfl
theorem inf11.size : (Try.prog.info? 11).map (·.size) = some 1 := by kernel_rfl
theorem inf11.zero : (Try.prog.info? 11).map (·.zero) = some (some (.string ByteArray.empty)) := by kernel_rfl
theorem inf12 : (Try.prog.info? 12).map (fun i => (i.zero, i.size, i.bytes)) = some (some (.int .u64 0), 1, 8) := by kernel_rfl
theorem inf12.size : (Try.prog.info? 12).map (·.size) = some 1 := by kernel_rfl
theorem inf12.zero : (Try.prog.info? 12).map (·.zero) = some (some (.int .u64 0)) := by kernel_rfl
theorem inf13 : (Try.prog.info? 13).map (fun i => (i.zero, i.size, i.bytes)) = some (some (.agg #[.string ByteArray.empty, .int .u64 0]), 2, 24) := by kernel_rfl
theorem inf13.size : (Try.prog.info? 13).map (·.size) = some 2 := by kernel_rfl
theorem inf13.zero : (Try.prog.info? 13).map (·.zero) = some (some (.agg #[.string ByteArray.empty, .int .u64 0])) := by kernel_rfl
theorem inf14 : (Try.prog.info? 14).map (fun i => (i.zero, i.size, i.bytes)) = some (some (.agg #[.string ByteArray.empty, .int .u64 0]), 2, 24) := by kernel_rfl
theorem inf14.size : (Try.prog.info? 14).map (·.size) = some 2 := by kernel_rfl
theorem inf14.zero : (Try.prog.info? 14).map (·.zero) = some (some (.agg #[.string ByteArray.empty, .int .u64 0])) := by kernel_rfl
theorem inf15 : (Try.prog.info? 15).map (fun i => (i.zero, i.size, i.bytes)) = some (some (.pointer none), 1, 8) := by kernel_rfl
theorem inf15.size : (Try.prog.info? 15).map (·.size) = some 1 := by kernel_rfl
theorem inf15.zero : (Try.prog.info? 15).map (·.zero) = some (some (.pointer none)) := by kernel_rfl
theorem inf16 : (Try.prog.info? 16).map (fun i => (i.zero, i.size, i.bytes)) = some (some (.pointer none), 1, 8) := by kernel_rfl
theorem inf16.size : (Try.prog.info? 16).map (·.size) = some 1 := by kernel_rfl
theorem inf16.zero : (Try.prog.info? 16).map (·.zero) = some (some (.pointer none)) := by kernel_rfl
theorem inf17 : (Try.prog.info? 17).map (fun i => (i.zero, i.size, i.bytes)) = some (some (.pointer none), 1, 8) := by kernel_rfl
theorem inf17.size : (Try.prog.info? 17).map (·.size) = some 1 := by kernel_rfl
theorem inf17.zero : (Try.prog.info? 17).map (·.zero) = some (some (.pointer none)) := by kernel_rfl
theorem inf18 : (Try.prog.info? 18).map (fun i => (i.zero, i.size, i.bytes)) = some (some (.agg #[.pointer none]), 1, 8) := by kernel_rfl
theorem inf18.size : (Try.prog.info? 18).map (·.size) = some 1 := by kernel_rfl
theorem inf18.zero : (Try.prog.info? 18).map (·.zero) = some (some (.agg #[.pointer none])) := by kernel_rfl
theorem inf19 : (Try.prog.info? 19).map (fun i => (i.zero, i.size, i.bytes)) = some (some (.agg #[.pointer none]), 1, 8) := by kernel_rfl
theorem inf19.size : (Try.prog.info? 19).map (·.size) = some 1 := by kernel_rfl
theorem inf19.zero : (Try.prog.info? 19).map (·.zero) = some (some (.agg #[.pointer none])) := by kernel_rfl
theorem inf20 : (Try.prog.info? 20).map (fun i => (i.zero, i.size, i.bytes)) = some (some (.nilIface), 1, 16) := by kernel_rfl
theorem inf20.size : (Try.prog.info? 20).map (·.size) = some 1 := by kernel_rfl
theorem inf20.zero : (Try.prog.info? 20).map (·.zero) = some (some (.nilIface)) := by kernel_rfl
theorem inf21 : (Try.prog.info? 21).map (fun i => (i.zero, i.size, i.bytes)) = some (some (.int .i32 0), 1, 4) := by kernel_rfl
theorem inf21.size : (Try.prog.info? 21).map (·.size) = some 1 := by kernel_rfl
theorem inf21.zero : (Try.prog.info? 21).map (·.zero) = some (some (.int .i32 0)) := by kernel_rfl
theorem inf22 : (Try.prog.info? 22).map (fun i => (i.zero, i.size, i.bytes)) = some (some (.slice none 0 0), 1, 24) := by kernel_rfl
theorem inf22.size : (Try.prog.info? 22).map (·.size) = some 1 := by kernel_rfl
theorem inf22.zero : (Try.prog.info? 22).map (·.zero) = some (some (.slice none 0 0)) := by kernel_rfl
theorem inf23 : (Try.prog.info? 23).map (fun i => (i.zero, i.size, i.bytes)) = some (some (.nilFunc), 1, 8) := by kernel_rfl
theorem inf23.size : (Try.prog.info? 23).map (·.size) = some 1 := by kernel_rfl
theorem inf23.zero : (Try.prog.info? 23).map (·.zero) = some (some (.nilFunc)) := by kernel_rfl
theorem inf24 : (Try.prog.info? 24).map (fun i => (i.zero, i.size, i.bytes)) = some (some (.nilFunc), 1, 8) := by kernel_rfl
theorem inf24.size : (Try.prog.info? 24).map (·.size) = some 1 := by kernel_rfl
theorem inf24.zero : (Try.prog.info? 24).map (·.zero) = some (some (.nilFunc)) := by kernel_rfl
theorem inf25 : (Try.prog.info? 25).map (fun i => (i.zero, i.size, i.bytes)) = some (some (.nilFunc), 1, 8) := by kernel_rfl
theorem inf25.size : (Try.prog.info? 25).map (·.size) = some 1 := by kernel_rfl
theorem inf25.zero : (Try.prog.info? 25).map (·.zero) = some (some (.nilFunc)) := by kernel_rfl
theorem inf26 : (Try.prog.info? 26).map (fun i => (i.zero, i.size, i.bytes)) = some (some (.int .u64 0), 1, 8) := by kernel_rfl
theorem inf26.size : (Try.prog.info? 26).map (·.size) = some 1 := by kernel_rfl
theorem inf26.zero : (Try.prog.info? 26).map (·.zero) = some (some (.int .u64 0)) := by kernel_rfl
theorem inf27 : (Try.prog.info? 27).map (fun i => (i.zero, i.size, i.bytes)) = some (some (.agg #[.int .i64 0, .int .i64 0, .int .i64 0, .int .u64 0]), 4, 32) := by kernel_rfl
theorem inf27.size : (Try.prog.info? 27).map (·.size) = some 4 := by kernel_rfl
theorem inf27.zero : (Try.prog.info? 27).map (·.zero) = some (some (.agg #[.int .i64 0, .int .i64 0, .int .i64 0, .int .u64 0])) := by kernel_rfl
theorem inf28 : (Try.prog.info? 28).map (fun i => (i.zero, i.size, i.bytes)) = some (some (.agg #[.int .i64 0, .int .i64 0, .int .i64 0, .int .u64 0]), 4, 32) := by kernel_rfl
theorem inf28.size : (Try.prog.info? 28).map (·.size) = some 4 := by kernel_rfl
theorem inf28.zero : (Try.prog.info? 28).map (·.zero) = some (some (.agg #[.int .i64 0, .int .i64 0, .int .i64 0, .int .u64 0])) := by kernel_rfl
theorem inf29 : (Try.prog.info? 29).map (fun i => (i.zero, i.size, i.bytes)) = some (some (.slice none 0 0), 1, 24) := by kernel_rfl
theorem inf29.size : (Try.prog.info? 29).map (·.size) = some 1 := by kernel_rfl
theorem inf29.zero : (Try.prog.info? 29).map (·.zero) = some (some (.slice none 0 0)) := by kernel_rfl
theorem inf30 : (Try.prog.info? 30).map (fun i => (i.zero, i.size, i.bytes)) = some (some (.nilFunc), 1, 8) := by kernel_rfl
theorem inf30.size : (Try.prog.info? 30).map (·.size) = some 1 := by kernel_rfl
theorem inf30.zero : (Try.prog.info? 30).map (·.zero) = some (some (.nilFunc)) := by kernel_rfl
theorem inf31 : (Try.prog.info? 31).map (fun i => (i.zero, i.size, i.bytes)) = some (some (.nilFunc), 1, 8) := by kernel_rfl
theorem inf31.size : (Try.prog.info? 31).map (·.size) = some 1 := by kernel_rfl
theorem inf31.zero : (Try.prog.info? 31).map (·.zero) = some (some (.nilFunc)) := by kernel_rfl
theorem inf32 : (Try.prog.info? 32).map (fun i => (i.zero, i.size, i.bytes)) = some (some (.nilFunc), 1, 8) := by kernel_rfl
theorem inf32.size : (Try.prog.info? 32).map (·.size) = some 1 := by kernel_rfl
theorem inf32.zero : (Try.prog.info? 32).map (·.zero) = some (some (.nilFunc)) := by kernel_rfl
theorem inf33 : (Try.prog.info? 33).map (fun i => (i.zero, i.size, i.bytes)) = some (some (.nilFunc), 1, 8) := by kernel_rfl
theorem inf33.size : (Try.prog.info? 33).map (·.size) = some 1 := by kernel_rfl
theorem inf33.zero : (Try.prog.info? 33).map (·.zero) = some (some (.nilFunc)) := by kernel_rfl
theorem inf34 : (Try.prog.info? 34).map (fun i => (i.zero, i.size, i.bytes)) = some (some (.slice none 0 0), 1, 24) := by kernel_rfl
theorem inf34.size : (Try.prog.info? 34).map (·.size) = some 1 := by kernel_rfl
theorem inf34.zero : (Try.prog.info? 34).map (·.zero) = some (some (.slice none 0 0)) := by kernel_rfl
theorem inf35 : (Try.prog.info? 35).map (fun i => (i.zero, i.size, i.bytes)) = some (some (.slice none 0 0), 1, 24) := by kernel_rfl
theorem inf35.size : (Try.prog.info? 35).map (·.size) = some 1 := by kernel_rfl
theorem inf35.zero : (Try.prog.info? 35).map (·.zero) = some (some (.slice none 0 0)) := by kernel_rfl
theorem inf36 : (Try.prog.info? 36).map (fun i => (i.zero, i.size, i.bytes)) = some (some (.agg #[.slice none 0 0, .slice none 0 0]), 2, 48) := by kernel_rfl
theorem inf36.size : (Try.prog.info? 36).map (·.size) = some 2 := by kernel_rfl
theorem inf36.zero : (Try.prog.info? 36).map (·.zero) = some (some (.agg #[.slice none 0 0, .slice none 0 0])) := by kernel_rfl
theorem inf37 : (Try.prog.info? 37).map (fun i => (i.zero, i.size, i.bytes)) = some (some (.agg #[.slice none 0 0, .slice none 0 0]), 2, 48) := by kernel_rfl
theorem inf37.size : (Try.prog.info? 37).map (·.size) = some 2 := by kernel_rfl
theorem inf37.zero : (Try.prog.info? 37).map (·.zero) = some (some (.agg #[.slice none 0 0, .slice none 0 0])) := by kernel_rfl
theorem inf38 : (Try.prog.info? 38).map (fun i => (i.zero, i.size, i.bytes)) = some (some (.agg #[.int .i64 0, .int .i64 0, .string ByteArray.empty]), 3, 32) := by kernel_rfl
theorem inf38.size : (Try.prog.info? 38).map (·.size) = some 3 := by kernel_rfl
theorem inf38.zero : (Try.prog.info? 38).map (·.zero) = some (some (.agg #[.int .i64 0, .int .i64 0, .string ByteArray.empty])) := by kernel_rfl
theorem inf39 : (Try.prog.info? 39).map (fun i => (i.zero, i.size, i.bytes)) = some (some (.agg #[.int .i64 0, .int .i64 0, .string ByteArray.empty]), 3, 32) := by kernel_rfl
theorem inf39.size : (Try.prog.info? 39).map (·.size) = some 3 := by kernel_rfl
theorem inf39.zero : (Try.prog.info? 39).map (·.zero) = some (some (.agg #[.int .i64 0, .int .i64 0, .string ByteArray.empty])) := by kernel_rfl
theorem inf40 : (Try.prog.info? 40).map (fun i => (i.zero, i.size, i.bytes)) = some (some (.agg #[.int .i64 0, .string ByteArray.empty, .string ByteArray.empty, .int .i64 0, .int .i64 0, .int .i64 0, .string ByteArray.empty]), 7, 80) := by kernel_rfl
theorem inf40.size : (Try.prog.info? 40).map (·.size) = some 7 := by kernel_rfl
theorem inf40.zero : (Try.prog.info? 40).map (·.zero) = some (some (.agg #[.int .i64 0, .string ByteArray.empty, .string ByteArray.empty, .int .i64 0, .int .i64 0, .int .i64 0, .string ByteArray.empty])) := by kernel_rfl
theorem inf41 : (Try.prog.info? 41).map (fun i => (i.zero, i.size, i.bytes)) = some (some (.agg #[.int .i64 0, .string ByteArray.empty, .string ByteArray.empty, .int .i64 0, .int .i64 0, .int .i64 0, .string ByteArray.empty]), 7, 80) := by kernel_rfl
theorem inf41.size : (Try.prog.info? 41).map (·.size) = some 7 := by kernel_rfl
theorem inf41.zero : (Try.prog.info? 41).map (·.zero) = some (some (.agg #[.int .i64 0, .string ByteArray.empty, .string ByteArray.empty, .int .i64 0, .int .i64 0, .int .i64 0, .string ByteArray.empty])) := by kernel_rfl
theorem inf42 : (Try.prog.info? 42).map (fun i => (i.zero, i.size, i.bytes)) = some (some (.nilFunc), 1, 8) := by kernel_rfl
theorem inf42.size : (Try.prog.info? 42).map (·.size) = some 1 := by kernel_rfl
theorem inf42.zero : (Try.prog.info? 42).map (·.zero) = some (some (.nilFunc)) := by kernel_rfl
theorem inf43 : (Try.prog.info? 43).map (fun i => (i.zero, i.size, i.bytes)) = some (some (.nilFunc), 1, 8) := by kernel_rfl
theorem inf43.size : (Try.prog.info? 43).map (·.size) = some 1 := by kernel_rfl
theorem inf43.zero : (Try.prog.info? 43).map (·.zero) = some (some (.nilFunc)) := by kernel_rfl
theorem inf44 : (Try.prog.info? 44).map (fun i => (i.zero, i.size, i.bytes)) = some (some (.pointer none), 1, 8) := by kernel_rfl
theorem inf44.size : (Try.prog.info? 44).map (·.size) = some 1 := by kernel_rfl
theorem inf44.zero : (Try.prog.info? 44).map (·.zero) = some (some (.pointer none)) := by kernel_rfl
theorem inf45 : (Try.prog.info? 45).map (fun i => (i.zero, i.size, i.bytes)) = some (some (.int .i64 0), 1, 8) := by kernel_rfl
theorem inf45.size : (Try.prog.info? 45).map (·.size) = some 1 := by kernel_rfl
theorem inf45.zero : (Try.prog.info? 45).map (·.zero) = some (some (.int .i64 0)) := by kernel_rfl
theorem inf46 : (Try.prog.info? 46).map (fun i => (i.zero, i.size, i.bytes)) = some (some (.tuple #[.pointer none, .int .i64 0]), 1, 0) := by kernel_rfl
theorem inf46.size : (Try.prog.info? 46).map (·.size) = some 1 := by kernel_rfl
theorem inf46.zero : (Try.prog.info? 46).map (·.zero) = some (some (.tuple #[.pointer none, .int .i64 0])) := by kernel_rfl
theorem inf47 : (Try.prog.info? 47).map (fun i => (i.zero, i.size, i.bytes)) = some (some (.nilFunc), 1, 8) := by kernel_rfl
theorem inf47.size : (Try.prog.info? 47).map (·.size) = some 1 := by kernel_rfl
theorem inf47.zero : (Try.prog.info? 47).map (·.zero) = some (some (.nilFunc)) := by kernel_rfl
theorem inf48 : (Try.prog.info? 48).map (fun i => (i.zero, i.size, i.bytes)) = some (some (.nilFunc), 1, 8) := by kernel_rfl
theorem inf48.size : (Try.prog.info? 48).map (·.size) = some 1 := by kernel_rfl
theorem inf48.zero : (Try.prog.info? 48).map (·.zero) = some (some (.nilFunc)) := by kernel_rfl
theorem inf49 : (Try.prog.info? 49).map (fun i => (i.zero, i.size, i.bytes)) = some (some (.nilFunc), 1, 8) := by kernel_rfl
theorem inf49.size : (Try.prog.info? 49).map (·.size) = some 1 := by kernel_rfl
theorem inf49.zero : (Try.prog.info? 49).map (·.zero) = some (some (.nilFunc)) := by kernel_rfl
theorem inf50 : (Try.prog.info? 50).map (fun i => (i.zero, i.size, i.bytes)) = some (some (.nilFunc), 1, 8) := by kernel_rfl
theorem inf50.size : (Try.prog.info? 50).map (·.size) = some 1 := by kernel_rfl
theorem inf50.zero : (Try.prog.info? 50).map (·.zero) = some (some (.nilFunc)) := by kernel_rfl
theorem inf51 : (Try.prog.info? 51).map (fun i => (i.zero, i.size, i.bytes)) = some (some (.slice none 0 0), 1, 24) := by kernel_rfl
theorem inf51.size : (Try.prog.info? 51).map (·.size) = some 1 := by kernel_rfl
theorem inf51.zero : (Try.prog.info? 51).map (·.zero) = some (some (.slice none 0 0)) := by kernel_rfl
theorem inf52 : (Try.prog.info? 52).map (fun i => (i.zero, i.size, i.bytes)) = some (some (.nilFunc), 1, 8) := by kernel_rfl
theorem inf52.size : (Try.prog.info? 52).map (·.size) = some 1 := by kernel_rfl
theorem inf52.zero : (Try.prog.info? 52).map (·.zero) = some (some (.nilFunc)) := by kernel_rfl
theorem inf53 : (Try.prog.info? 53).map (fun i => (i.zero, i.size, i.bytes)) = some (some (.nilFunc), 1, 8) := by kernel_rfl
theorem inf53.size : (Try.prog.info? 53).map (·.size) = some 1 := by kernel_rfl
theorem inf53.zero : (Try.prog.info? 53).map (·.zero) = some (some (.nilFunc)) := by kernel_rfl
theorem inf54 : (Try.prog.info? 54).map (fun i => (i.zero, i.size, i.bytes)) = some (some (.nilFunc), 1, 8) := by kernel_rfl
theorem inf54.size : (Try.prog.info? 54).map (·.size) = some 1 := by kernel_rfl
theorem inf54.zero : (Try.prog.info? 54).map (·.zero) = some (some (.nilFunc)) := by kernel_rfl
theorem inf55 : (Try.prog.info? 55).map (fun i => (i.zero, i.size, i.bytes)) = some (some (.nilFunc), 1, 8) := by kernel_rfl
theorem inf55.size : (Try.prog.info? 55).map (·.size) = some 1 := by kernel_rfl
theorem inf55.zero : (Try.prog.info? 55).map (·.zero) = some (some (.nilFunc)) := by kernel_rfl
theorem inf56 : (Try.prog.info? 56).map (fun i => (i.zero, i.size, i.bytes)) = some (some (.nilFunc), 1, 8) := by kernel_rfl
theorem inf56.size : (Try.prog.info? 56).map (·.size) = some 1 := by kernel_rfl
theorem inf56.zero : (Try.prog.info? 56).map (·.zero) = some (some (.nilFunc)) := by kernel_rfl
theorem inf57 : (Try.prog.info? 57).map (fun i => (i.zero, i.size, i.bytes)) = some (some (.nilFunc), 1, 8) := by kernel_rfl
theorem inf57.size : (Try.prog.info? 57).map (·.size) = some 1 := by kernel_rfl
theorem inf57.zero : (Try.prog.info? 57).map (·.zero) = some (some (.nilFunc)) := by kernel_rfl
theorem inf58 : (Try.prog.info? 58).map (fun i => (i.zero, i.size, i.bytes)) = some (some (.nilFunc), 1, 8) := by kernel_rfl
theorem inf58.size : (Try.prog.info? 58).map (·.size) = some 1 := by kernel_rfl
theorem inf58.zero : (Try.prog.info? 58).map (·.zero) = some (some (.nilFunc)) := by kernel_rfl
theorem inf59 : (Try.prog.info? 59).map (fun i => (i.zero, i.size, i.bytes)) = some (some (.slice none 0 0), 1, 24) := by kernel_rfl
theorem inf59.size : (Try.prog.info? 59).map (·.size) = some 1 := by kernel_rfl
theorem inf59.zero : (Try.prog.info? 59).map (·.zero) = some (some (.slice none 0 0)) := by kernel_rfl
theorem inf60 : (Try.prog.info? 60).map (fun i => (i.zero, i.size, i.bytes)) = some (some (.slice none 0 0), 1, 24) := by kernel_rfl
theorem inf60.size : (Try.prog.info? 60).map (·.size) = some 1 := by kernel_rfl
theorem inf60.zero : (Try.prog.info? 60).map (·.zero) = some (some (.slice none 0 0)) := by kernel_rfl
theorem inf61 : (Try.prog.info? 61).map (fun i => (i.zero, i.size, i.bytes)) = some (some (.agg #[.slice none 0 0, .slice none 0 0, .slice none 0 0, .slice none 0 0, .slice none 0 0]), 5, 120) := by kernel_rfl
theorem inf61.size : (Try.prog.info? 61).map (·.size) = some 5 := by kernel_rfl
theorem inf61.zero : (Try.prog.info? 61).map (·.zero) = some (some (.agg #[.slice none 0 0, .slice none 0 0, .slice none 0 0, .slice none 0 0, .slice none 0 0])) := by kernel_rfl
theorem inf62 : (Try.prog.info? 62).map (fun i => (i.zero, i.size, i.bytes)) = some (some (.agg #[.slice none 0 0, .slice none 0 0, .slice none 0 0, .slice none 0 0, .slice none 0 0]), 5, 120) := by kernel_rfl
theorem inf62.size : (Try.prog.info? 62).map (·.size) = some 5 := by kernel_rfl
theorem inf62.zero : (Try.prog.info? 62).map (·.zero) = some (some (.agg #[.slice none 0 0, .slice none 0 0, .slice none 0 0, .slice none 0 0, .slice none 0 0])) := by kernel_rfl
theorem inf63 : (Try.prog.info? 63).map (fun i => (i.zero, i.size, i.bytes)) = some (some (.slice none 0 0), 1, 24) := by kernel_rfl
theorem inf63.size : (Try.prog.info? 63).map (·.size) = some 1 := by kernel_rfl
theorem inf63.zero : (Try.prog.info? 63).map (·.zero) = some (some (.slice none 0 0)) := by kernel_rfl
theorem inf64 : (Try.prog.info? 64).map (fun i => (i.zero, i.size, i.bytes)) = some (some (.agg #[.slice none 0 0, .slice none 0 0]), 2, 48) := by kernel_rfl
theorem inf64.size : (Try.prog.info? 64).map (·.size) = some 2 := by kernel_rfl
theorem inf64.zero : (Try.prog.info? 64).map (·.zero) = some (some (.agg #[.slice none 0 0, .slice none 0 0])) := by kernel_rfl
theorem inf65 : (Try.prog.info? 65).map (fun i => (i.zero, i.size, i.bytes)) = some (some (.agg #[.slice none 0 0, .slice none 0 0]), 2, 48) := by kernel_rfl
theorem inf65.size : (Try.prog.info? 65).map (·.size) = some 2 := by kernel_rfl
theorem inf65.zero : (Try.prog.info? 65).map (·.zero) = some (some (.agg #[.slice none 0 0, .slice none 0 0])) := by kernel_rfl
theorem inf66 : (Try.prog.info? 66).map (fun i => (i.zero, i.size, i.bytes)) = some (some (.nilFunc), 1, 8) := by kernel_rfl
theorem inf66.size : (Try.prog.info? 66).map (·.size) = some 1 := by kernel_rfl
theorem inf66.zero : (Try.prog.info? 66).map (·.zero) = some (some (.nilFunc)) := by kernel_rfl
theorem inf67 : (Try.prog.info? 67).map (fun i => (i.zero, i.size, i.bytes)) = some (some (.nilFunc), 1, 8) := by kernel_rfl
theorem inf67.size : (Try.prog.info? 67).map (·.size) = some 1 := by kernel_rfl
theorem inf67.zero : (Try.prog.info? 67).map (·.zero) = some (some (.nilFunc)) := by kernel_rfl
theorem inf68 : (Try.prog.info? 68).map (fun i => (i.zero, i.size, i.bytes)) = some (some (.tuple #[.agg #[.slice none 0 0, .slice none 0 0], .int .i64 0]), 1, 0) := by kernel_rfl
theorem inf68.size : (Try.prog.info? 68).map (·.size) = some 1 := by kernel_rfl
theorem inf68.zero : (Try.prog.info? 68).map (·.zero) = some (some (.tuple #[.agg #[.slice none 0 0, .slice none 0 0], .int .i64 0])) := by kernel_rfl
theorem inf69 : (Try.prog.info? 69).map (fun i => (i.zero, i.size, i.bytes)) = some (some (.nilFunc), 1, 8) := by kernel_rfl
theorem inf69.size : (Try.prog.info? 69).map (·.size) = some 1 := by kernel_rfl
theorem inf69.zero : (Try.prog.info? 69).map (·.zero) = some (some (.nilFunc)) := by kernel_rfl
theorem inf70 : (Try.prog.info? 70).map (fun i => (i.zero, i.size, i.bytes)) = some (some (.nilFunc), 1, 8) := by kernel_rfl
theorem inf70.size : (Try.prog.info? 70).map (·.size) = some 1 := by kernel_rfl
theorem inf70.zero : (Try.prog.info? 70).map (·.zero) = some (some (.nilFunc)) := by kernel_rfl
theorem inf71 : (Try.prog.info? 71).map (fun i => (i.zero, i.size, i.bytes)) = some (some (.nilFunc), 1, 8) := by kernel_rfl
theorem inf71.size : (Try.prog.info? 71).map (·.size) = some 1 := by kernel_rfl
theorem inf71.zero : (Try.prog.info? 71).map (·.zero) = some (some (.nilFunc)) := by kernel_rfl
theorem inf72 : (Try.prog.info? 72).map (fun i => (i.zero, i.size, i.bytes)) = some (some (.nilFunc), 1, 8) := by kernel_rfl
theorem inf72.size : (Try.prog.info? 72).map (·.size) = some 1 := by kernel_rfl
theorem inf72.zero : (Try.prog.info? 72).map (·.zero) = some (some (.nilFunc)) := by kernel_rfl
theorem inf73 : (Try.prog.info? 73).map (fun i => (i.zero, i.size, i.bytes)) = some (some (.nilFunc), 1, 8) := by kernel_rfl
theorem inf73.size : (Try.prog.info? 73).map (·.size) = some 1 := by kernel_rfl
theorem inf73.zero : (Try.prog.info? 73).map (·.zero) = some (some (.nilFunc)) := by kernel_rfl
theorem inf74 : (Try.prog.info? 74).map (fun i => (i.zero, i.size, i.bytes)) = some (some (.slice none 0 0), 1, 24) := by kernel_rfl
theorem inf74.size : (Try.prog.info? 74).map (·.size) = some 1 := by kernel_rfl
theorem inf74.zero : (Try.prog.info? 74).map (·.zero) = some (some (.slice none 0 0)) := by kernel_rfl
theorem inf75 : (Try.prog.info? 75).map (fun i => (i.zero, i.size, i.bytes)) = some (some (.nilFunc), 1, 8) := by kernel_rfl
theorem inf75.size : (Try.prog.info? 75).map (·.size) = some 1 := by kernel_rfl
theorem inf75.zero : (Try.prog.info? 75).map (·.zero) = some (some (.nilFunc)) := by kernel_rfl
theorem inf76 : (Try.prog.info? 76).map (fun i => (i.zero, i.size, i.bytes)) = some (some (.nilFunc), 1, 8) := by kernel_rfl
theorem inf76.size : (Try.prog.info? 76).map (·.size) = some 1 := by kernel_rfl
theorem inf76.zero : (Try.prog.info? 76).map (·.zero) = some (some (.nilFunc)) := by kernel_rfl
theorem inf77 : (Try.prog.info? 77).map (fun i => (i.zero, i.size, i.bytes)) = some (some (.pointer none), 1, 8) := by kernel_rfl
theorem inf77.size : (Try.prog.info? 77).map (·.size) = some 1 := by kernel_rfl
theorem inf77.zero : (Try.prog.info? 77).map (·.zero) = some (some (.pointer none)) := by kernel_rfl
theorem inf78 : (Try.prog.info? 78).map (fun i => (i.zero, i.size, i.bytes)) = some (some (.tuple #[.pointer none, .int .i64 0]), 1, 0) := by kernel_rfl
theorem inf78.size : (Try.prog.info? 78).map (·.size) = some 1 := by kernel_rfl
theorem inf78.zero : (Try.prog.info? 78).map (·.zero) = some (some (.tuple #[.pointer none, .int .i64 0])) := by kernel_rfl
theorem inf79 : (Try.prog.info? 79).map (fun i => (i.zero, i.size, i.bytes)) = some (some (.nilFunc), 1, 8) := by kernel_rfl
theorem inf79.size : (Try.prog.info? 79).map (·.size) = some 1 := by kernel_rfl
theorem inf79.zero : (Try.prog.info? 79).map (·.zero) = some (some (.nilFunc)) := by kernel_rfl
theorem inf80 : (Try.prog.info? 80).map (fun i => (i.zero, i.size, i.bytes)) = some (some (.agg #[.slice none 0 0, .slice none 0 0]), 2, 48) := by kernel_rfl
theorem inf80.size : (Try.prog.info? 80).map (·.size) = some 2 := by kernel_rfl
theorem inf80.zero : (Try.prog.info? 80).map (·.zero) = some (some (.agg #[.slice none 0 0, .slice none 0 0])) := by kernel_rfl
theorem inf81 : (Try.prog.info? 81).map (fun i => (i.zero, i.size, i.bytes)) = some (some (.slice none 0 0), 1, 24) := by kernel_rfl
theorem inf81.size : (Try.prog.info? 81).map (·.size) = some 1 := by kernel_rfl
theorem inf81.zero : (Try.prog.info? 81).map (·.zero) = some (some (.slice none 0 0)) := by kernel_rfl
theorem inf82 : (Try.prog.info? 82).map (fun i => (i.zero, i.size, i.bytes)) = some (some (.nilFunc), 1, 8) := by kernel_rfl
theorem inf82.size : (Try.prog.info? 82).map (·.size) = some 1 := by kernel_rfl
theorem inf82.zero : (Try.prog.info? 82).map (·.zero) = some (some (.nilFunc)) := by kernel_rfl
theorem inf83 : (Try.prog.info? 83).map (fun i => (i.zero, i.size, i.bytes)) = some (some (.agg #[.slice none 0 0, .slice none 0 0]), 2, 48) := by kernel_rfl
theorem inf83.size : (Try.prog.info? 83).map (·.size) = some 2 := by kernel_rfl
theorem inf83.zero : (Try.prog.info? 83).map (·.zero) = some (some (.agg #[.slice none 0 0, .slice none 0 0])) := by kernel_rfl
theorem inf84 : (Try.prog.info? 84).map (fun i => (i.zero, i.size, i.bytes)) = some (some (.agg #[.int .i64 0, .int .i64 0, .int .i64 0, .int .i64 0]), 4, 32) := by kernel_rfl
theorem inf84.size : (Try.prog.info? 84).map (·.size) = some 4 := by kernel_rfl
theorem inf84.zero : (Try.prog.info? 84).map (·.zero) = some (some (.agg #[.int .i64 0, .int .i64 0, .int .i64 0, .int .i64 0])) := by kernel_rfl
theorem inf85 : (Try.prog.info? 85).map (fun i => (i.zero, i.size, i.bytes)) = some (some (.agg #[.int .i64 0, .int .i64 0, .int .i64 0, .int .i64 0]), 4, 32) := by kernel_rfl
theorem inf85.size : (Try.prog.info? 85).map (·.size) = some 4 := by kernel_rfl
theorem inf85.zero : (Try.prog.info? 85).map (·.zero) = some (some (.agg #[.int .i64 0, .int .i64 0, .int .i64 0, .int .i64 0])) := by kernel_rfl
theorem inf86 : (Try.prog.info? 86).map (fun i => (i.zero, i.size, i.bytes)) = some (some (.tuple #[.int .i64 0, .int .i64 0, .bool false]), 1, 0) := by kernel_rfl
theorem inf86.size : (Try.prog.info? 86).map (·.size) = some 1 := by kernel_rfl
theorem inf86.zero : (Try.prog.info? 86).map (·.zero) = some (some (.tuple #[.int .i64 0, .int .i64 0, .bool false])) := by kernel_rfl
theorem inf87 : (Try.prog.info? 87).map (fun i => (i.zero, i.size, i.bytes)) = some (some (.nilFunc), 1, 8) := by kernel_rfl
theorem inf87.size : (Try.prog.info? 87).map (·.size) = some 1 := by kernel_rfl
theorem inf87.zero : (Try.prog.info? 87).map (·.zero) = some (some (.nilFunc)) := by kernel_rfl
theorem inf88 : (Try.prog.info? 88).map (fun i => (i.zero, i.size, i.bytes)) = some (some (.agg #[.int .i64 0, .int .i64 0, .string ByteArray.empty, .int .i64 0]), 4, 40) := by kernel_rfl
theorem inf88.size : (Try.prog.info? 88).map (·.size) = some 4 := by kernel_rfl
theorem inf88.zero : (Try.prog.info? 88).map (·.zero) = some (some (.agg #[.int .i64 0, .int .i64 0, .string ByteArray.empty, .int .i64 0])) := by kernel_rfl
theorem inf89 : (Try.prog.info? 89).map (fun i => (i.zero, i.size, i.bytes)) = some (some (.agg #[.int .i64 0, .int .i64 0, .string ByteArray.empty, .int .i64 0]), 4, 40) := by kernel_rfl
theorem inf89.size : (Try.prog.info? 89).map (·.size) = some 4 := by kernel_rfl
theorem inf89.zero : (Try.prog.info? 89).map (·.zero) = some (some (.agg #[.int .i64 0, .int .i64 0, .string ByteArray.empty, .int .i64 0])) := by kernel_rfl
theorem inf90 : (Try.prog.info? 90).map (fun i => (i.zero, i.size, i.bytes)) = some (some (.agg #[.string ByteArray.empty, .bool false]), 2, 24) := by kernel_rfl
theorem inf90.size : (Try.prog.info? 90).map (·.size) = some 2 := by kernel_rfl
theorem inf90.zero : (Try.prog.info? 90).map (·.zero) = some (some (.agg #[.string ByteArray.empty, .bool false])) := by kernel_rfl
theorem inf91 : (Try.prog.info? 91).map (fun i => (i.zero, i.size, i.bytes)) = some (some (.agg #[.string ByteArray.empty, .bool false]), 2, 24) := by kernel_rfl
theorem inf91.size : (Try.prog.info? 91).map (·.size) = some 2 := by kernel_rfl
theorem inf91.zero : (Try.prog.info? 91).map (·.zero) = some (some (.agg #[.string ByteArray.empty, .bool false])) := by kernel_rfl
theorem inf92 : (Try.prog.info? 92).map (fun i => (i.zero, i.size, i.bytes)) = some (some (.nilFunc), 1, 8) := by kernel_rfl
theorem inf92.size : (Try.prog.info? 92).map (·.size) = some 1 := by kernel_rfl
theorem inf92.zero : (Try.prog.info? 92).map (·.zero) = some (some (.nilFunc)) := by kernel_rfl
theorem inf93 : (Try.prog.info? 93).map (fun i => (i.zero, i.size, i.bytes)) = some (some (.tuple #[.int .i64 0, .int .i64 0]), 1, 0) := by kernel_rfl
theorem inf93.size : (Try.prog.info? 93).map (·.size) = some 1 := by kernel_rfl
theorem inf93.zero : (Try.prog.info? 93).map (·.zero) = some (some (.tuple #[.int .i64 0, .int .i64 0])) := by kernel_rfl
theorem inf94 : (Try.prog.info? 94).map (fun i => (i.zero, i.size, i.bytes)) = some (some (.nilFunc), 1, 8) := by kernel_rfl
theorem inf94.size : (Try.prog.info? 94).map (·.size) = some 1 := by kernel_rfl
theorem inf94.zero : (Try.prog.info? 94).map (·.zero) = some (some (.nilFunc)) := by kernel_rfl
theorem inf95 : (Try.prog.info? 95).map (fun i => (i.zero, i.size, i.bytes)) = some (some (.nilFunc), 1, 8) := by kernel_rfl
theorem inf95.size : (Try.prog.info? 95).map (·.size) = some 1 := by kernel_rfl
theorem inf95.zero : (Try.prog.info? 95).map (·.zero) = some (some (.nilFunc)) := by kernel_rfl
theorem inf96 : (Try.prog.info? 96).map (fun i => (i.zero, i.size, i.bytes)) = some (some (.tuple #[.int .i64 0, .bool false]), 1, 0) := by kernel_rfl
theorem inf96.size : (Try.prog.info? 96).map (·.size) = some 1 := by kernel_rfl
theorem inf96.zero : (Try.prog.info? 96).map (·.zero) = some (some (.tuple #[.int .i64 0, .bool false])) := by kernel_rfl
theorem inf97 : (Try.prog.info? 97).map (fun i => (i.zero, i.size, i.bytes)) = some (some (.nilFunc), 1, 8) := by kernel_rfl
theorem inf97.size : (Try.prog.info? 97).map (·.size) = some 1 := by kernel_rfl
theorem inf97.zero : (Try.prog.info? 97).map (·.zero) = some (some (.nilFunc)) := by kernel_rfl
theorem inf98 : (Try.prog.info? 98).map (fun i => (i.zero, i.size, i.bytes)) = some (some (.nilFunc), 1, 8) := by kernel_rfl
theorem inf98.size : (Try.prog.info? 98).map (·.size) = some 1 := by kernel_rfl
theorem inf98.zero : (Try.prog.info? 98).map (·.zero) = some (some (.nilFunc)) := by kernel_rfl
theorem inf99 : (Try.prog.info? 99).map (fun i => (i.zero, i.size, i.bytes)) = some (some (.nilFunc), 1, 8) := by kernel_rfl
theorem inf99.size : (Try.prog.info? 99).map (·.size) = some 1 := by kernel_rfl
theorem inf99.zero : (Try.prog.info? 99).map (·.zero) = some (some (.nilFunc)) := by kernel_rfl
theorem inf100 : (Try.prog.info? 100).map (fun i => (i.zero, i.size, i.bytes)) = some (some (.nilFunc), 1, 8) := by kernel_rfl
theorem inf100.size : (Try.prog.info? 100).map (·.size) = some 1 := by kernel_rfl
theorem inf100.zero : (Try.prog.info? 100).map (·.zero) = some (some (.nilFunc)) := by kernel_rfl
theorem inf101 : (Try.prog.info? 101).map (fun i => (i.zero, i.size, i.bytes)) = some (some (.nilFunc), 1, 8) := by kernel_rfl
theorem inf101.size : (Try.prog.info? 101).map (·.size) = some 1 := by kernel_rfl
theorem inf101.zero : (Try.prog.info? 101).map (·.zero) = some (some (.nilFunc)) := by kernel_rfl
theorem inf102 : (Try.prog.info? 102).map (fun i => (i.zero, i.size, i.bytes)) = some (some (.nilFunc), 1, 8) := by kernel_rfl
theorem inf102.size : (Try.prog.info? 102).map (·.size) = some 1 := by kernel_rfl
theorem inf102.zero : (Try.prog.info? 102).map (·.zero) = some (some (.nilFunc)) := by kernel_rfl
theorem inf103 : (Try.prog.info? 103).map (fun i => (i.zero, i.size, i.bytes)) = some (some (.nilFunc), 1, 8) := by kernel_rfl
theorem inf103.size : (Try.prog.info? 103).map (·.size) = some 1 := by kernel_rfl
theorem inf103.zero : (Try.prog.info? 103).map (·.zero) = some (some (.nilFunc)) := by kernel_rfl
theorem inf104 : (Try.prog.info? 104).map (fun i => (i.zero, i.size, i.bytes)) = some (some (.nilFunc), 1, 8) := by kernel_rfl
theorem inf104.size : (Try.prog.info? 104).map (·.size) = some 1 := by kernel_rfl
theorem inf104.zero : (Try.prog.info? 104).map (·.zero) = some (some (.nilFunc)) := by kernel_rfl
theorem inf105 : (Try.prog.info? 105).map (fun i => (i.zero, i.size, i.bytes)) = some (some (.nilFunc), 1, 8) := by kernel_rfl
theorem inf105.size : (Try.prog.info? 105).map (·.size) = some 1 := by kernel_rfl
theorem inf105.zero : (Try.prog.info? 105).map (·.zero) = some (some (.nilFunc)) := by kernel_rfl
theorem inf106 : (Try.prog.info? 106).map (fun i => (i.zero, i.size, i.bytes)) = some (some (.nilFunc), 1, 8) := by kernel_rfl
theorem inf106.size : (Try.prog.info? 106).map (·.size) = some 1 := by kernel_rfl
theorem inf106.zero : (Try.prog.info? 106).map (·.zero) = some (some (.nilFunc)) := by kernel_rfl
theorem inf107 : (Try.prog.info? 107).map (fun i => (i.zero, i.size, i.bytes)) = some (some (.nilFunc), 1, 8) := by kernel_rfl
theorem inf107.size : (Try.prog.info? 107).map (·.size) = some 1 := by kernel_rfl
theorem inf107.zero : (Try.prog.info? 107).map (·.zero) = some (some (.nilFunc)) := by kernel_rfl
theorem inf108 : (Try.prog.info? 108).map (fun i => (i.zero, i.size, i.bytes)) = some (some (.nilFunc), 1, 8) := by kernel_rfl
theorem inf108.size : (Try.prog.info? 108).map (·.size) = some 1 := by kernel_rfl
theorem inf108.zero : (Try.prog.info? 108).map (·.zero) = some (some (.nilFunc)) := by kernel_rfl
theorem inf109 : (Try.prog.info? 109).map (fun i => (i.zero, i.size, i.bytes)) = some (some (.nilFunc), 1, 8) := by kernel_rfl
theorem inf109.size : (Try.prog.info? 109).map (·.size) = some 1 := by kernel_rfl
theorem inf109.zero : (Try.prog.info? 109).map (·.zero) = some (some (.nilFunc)) := by kernel_rfl
theorem inf110 : (Try.prog.info? 110).map (fun i => (i.zero, i.size, i.bytes)) = some (some (.nilFunc), 1, 8) := by kernel_rfl
theorem inf110.size : (Try.prog.info? 110).map (·.size) = some 1 := by kernel_rfl
theorem inf110.zero : (Try.prog.info? 110).map (·.zero) = some (some (.nilFunc)) := by kernel_rfl
theorem inf111 : (Try.prog.info? 111).map (fun i => (i.zero, i.size, i.bytes)) = some (some (.nilFunc), 1, 8) := by kernel_rfl
theorem inf111.size : (Try.prog.info? 111).map (·.size) = some 1 := by kernel_rfl
theorem inf111.zero : (Try.prog.info? 111).map (·.zero) = some (some (.nilFunc)) := by kernel_rfl
theorem inf112 : (Try.prog.info? 112).map (fun i => (i.zero, i.size, i.bytes)) = some (some (.tuple #[.string ByteArray.empty, .bool false]), 1, 0) := by kernel_rfl
theorem inf112.size : (Try.prog.info? 112).map (·.size) = some 1 := by kernel_rfl
theorem inf112.zero : (Try.prog.info? 112).map (·.zero) = some (some (.tuple #[.string ByteArray.empty, .bool false])) := by kernel_rfl
theorem inf113 : (Try.prog.info? 113).map (fun i => (i.zero, i.size, i.bytes)) = some (some (.nilFunc), 1, 8) := by kernel_rfl
theorem inf113.size : (Try.prog.info? 113).map (·.size) = some 1 := by kernel_rfl
theorem inf113.zero : (Try.prog.info? 113).map (·.zero) = some (some (.nilFunc)) := by kernel_rfl
theorem inf114 : (Try.prog.info? 114).map (fun i => (i.zero, i.size, i.bytes)) = some (some (.slice none 0 0), 1, 24) := by kernel_rfl
theorem inf114.size : (Try.prog.info? 114).map (·.size) = some 1 := by kernel_rfl
theorem inf114.zero : (Try.prog.info? 114).map (·.zero) = some (some (.slice none 0 0)) := by kernel_rfl
theorem inf115 : (Try.prog.info? 115).map (fun i => (i.zero, i.size, i.bytes)) = some (some (.agg #[.string ByteArray.empty, .slice none 0 0]), 2, 40) := by kernel_rfl
theorem inf115.size : (Try.prog.info? 115).map (·.size) = some 2 := by kernel_rfl
theorem inf115.zero : (Try.prog.info? 115).map (·.zero) = some (some (.agg #[.string ByteArray.empty, .slice none 0 0])) := by kernel_rfl
theorem inf116 : (Try.prog.info? 116).map (fun i => (i.zero, i.size, i.bytes)) = some (some (.agg #[.string ByteArray.empty, .slice none 0 0]), 2, 40) := by kernel_rfl
theorem inf116.size : (Try.prog.info? 116).map (·.size) = some 2 := by kernel_rfl
theorem inf116.zero : (Try.prog.info? 116).map (·.zero) = some (some (.agg #[.string ByteArray.empty, .slice none 0 0])) := by kernel_rfl
theorem inf117 : (Try.prog.info? 117).map (fun i => (i.zero, i.size, i.bytes)) = some (some (.nilFunc), 1, 8) := by kernel_rfl
theorem inf117.size : (Try.prog.info? 117).map (·.size) = some 1 := by kernel_rfl
theorem inf117.zero : (Try.prog.info? 117).map (·.zero) = some (some (.nilFunc)) := by kernel_rfl
theorem inf118 : (Try.prog.info? 118).map (fun i => (i.zero, i.size, i.bytes)) = some (some (.nilFunc), 1, 8) := by kernel_rfl
theorem inf118.size : (Try.prog.info? 118).map (·.size) = some 1 := by kernel_rfl
theorem inf118.zero : (Try.prog.info? 118).map (·.zero) = some (some (.nilFunc)) := by kernel_rfl
theorem inf119 : (Try.prog.info? 119).map (fun i => (i.zero, i.size, i.bytes)) = some (some (.nilFunc), 1, 8) := by kernel_rfl
theorem inf119.size : (Try.prog.info? 119).map (·.size) = some 1 := by kernel_rfl
theorem inf119.zero : (Try.prog.info? 119).map (·.zero) = some (some (.nilFunc)) := by kernel_rfl
theorem inf120 : (Try.prog.info? 120).map (fun i => (i.zero, i.size, i.bytes)) = some (some (.nilFunc), 1, 8) := by kernel_rfl
theorem inf120.size : (Try.prog.info? 120).map (·.size) = some 1 := by kernel_rfl
theorem inf120.zero : (Try.prog.info? 120).map (·.zero) = some (some (.nilFunc)) := by kernel_rfl
theorem inf121 : (Try.prog.info? 121).map (fun i => (i.zero, i.size, i.bytes)) = some (some (.nilFunc), 1, 8) := by kernel_rfl
theorem inf121.size : (Try.prog.info? 121).map (·.size) = some 1 := by kernel_rfl
theorem inf121.zero : (Try.prog.info? 121).map (·.zero) = some (some (.nilFunc)) := by kernel_rfl
theorem inf122 : (Try.prog.info? 122).map (fun i => (i.zero, i.size, i.bytes)) = some (some (.nilFunc), 1, 8) := by kernel_rfl
theorem inf122.size : (Try.prog.info? 122).map (·.size) = some 1 := by kernel_rfl
theorem inf122.zero : (Try.prog.info? 122).map (·.zero) = some (some (.nilFunc)) := by kernel_rfl
theorem inf123 : (Try.prog.info? 123).map (fun i => (i.zero, i.size, i.bytes)) = some (some (.nilFunc), 1, 8) := by kernel_rfl
theorem inf123.size : (Try.prog.info? 123).map (·.size) = some 1 := by kernel_rfl
theorem inf123.zero : (Try.prog.info? 123).map (·.zero) = some (some (.nilFunc)) := by kernel_rfl
theorem inf124 : (Try.prog.info? 124).map (fun i => (i.zero, i.size, i.bytes)) = some (some (.nilFunc), 1, 8) := by kernel_rfl
theorem inf124.size : (Try.prog.info? 124).map (·.size) = some 1 := by kernel_rfl
theorem inf124.zero : (Try.prog.info? 124).map (·.zero) = some (some (.nilFunc)) := by kernel_rfl
theorem inf125 : (Try.prog.info? 125).map (fun i => (i.zero, i.size, i.bytes)) = some (some (.nilFunc), 1, 8) := by kernel_rfl
theorem inf125.size : (Try.prog.info? 125).map (·.size) = some 1 := by kernel_rfl
theorem inf125.zero : (Try.prog.info? 125).map (·.zero) = some (some (.nilFunc)) := by kernel_rfl
theorem inf126 : (Try.prog.info? 126).map (fun i => (i.zero, i.size, i.bytes)) = some (some (.nilFunc), 1, 8) := by kernel_rfl
theorem inf126.size : (Try.prog.info? 126).map (·.size) = some 1 := by kernel_rfl
theorem inf126.zero : (Try.prog.info? 126).map (·.zero) = some (some (.nilFunc)) := by kernel_rfl
theorem inf127 : (Try.prog.info? 127).map (fun i => (i.zero, i.size, i.bytes)) = some (some (.nilFunc), 1, 8) := by kernel_rfl
theorem inf127.size : (Try.prog.info? 127).map (·.size) = some 1 := by kernel_rfl
theorem inf127.zero : (Try.prog.info? 127).map (·.zero) = some (some (.nilFunc)) := by kernel_rfl
theorem inf128 : (Try.prog.info? 128).map (fun i => (i.zero, i.size, i.bytes)) = some (some (.nilFunc), 1, 8) := by kernel_rfl
theorem inf128.size : (Try.prog.info? 128).map (·.size) = some 1 := by kernel_rfl
theorem inf128.zero : (Try.prog.info? 128).map (·.zero) = some (some (.nilFunc)) := by kernel_rfl
theorem inf129 : (Try.prog.info? 129).map (fun i => (i.zero, i.size, i.bytes)) = some (some (.nilFunc), 1, 8) := by kernel_rfl
theorem inf129.size : (Try.prog.info? 129).map (·.size) = some 1 := by kernel_rfl
theorem inf129.zero : (Try.prog.info? 129).map (·.zero) = some (some (.nilFunc)) := by kernel_rfl
theorem inf130 : (Try.prog.info? 130).map (fun i => (i.zero, i.size, i.bytes)) = some (some (.agg #[.string ByteArray.empty, .int .i64 0, .int .i64 0, .string ByteArray.empty]), 4, 48) := by kernel_rfl
theorem inf130.size : (Try.prog.info? 130).map (·.size) = some 4 := by kernel_rfl
theorem inf130.zero : (Try.prog.info? 130).map (·.zero) = some (some (.agg #[.string ByteArray.empty, .int .i64 0, .int .i64 0, .string ByteArray.empty])) := by kernel_rfl
theorem inf131 : (Try.prog.info? 131).map (fun i => (i.zero, i.size, i.bytes)) = some (some (.agg #[.string ByteArray.empty, .int .i64 0, .int .i64 0, .string ByteArray.empty]), 4, 48) := by kernel_rfl
theorem inf131.size : (Try.prog.info? 131).map (·.size) = some 4 := by kernel_rfl
theorem inf131.zero : (Try.prog.info? 131).map (·.zero) = some (some (.agg #[.string ByteArray.empty, .int .i64 0, .int .i64 0, .string ByteArray.empty])) := by kernel_rfl
theorem inf132 : (Try.prog.info? 132).map (fun i => (i.zero, i.size, i.bytes)) = some (some (.map none), 1, 8) := by kernel_rfl
theorem inf132.size : (Try.prog.info? 132).map (·.size) = some 1 := by kernel_rfl
theorem inf132.zero : (Try.prog.info? 132).map (·.zero) = some (some (.map none)) := by kernel_rfl
theorem inf133 : (Try.prog.info? 133).map (fun i => (i.zero, i.size, i.bytes)) = some (some (.map none), 1, 8) := by kernel_rfl
theorem inf133.size : (Try.prog.info? 133).map (·.size) = some 1 := by kernel_rfl
theorem inf133.zero : (Try.prog.info? 133).map (·.zero) = some (some (.map none)) := by kernel_rfl
theorem inf134 : (Try.prog.info? 134).map (fun i => (i.zero, i.size, i.bytes)) = some (some (.map none), 1, 8) := by kernel_rfl
theorem inf134.size : (Try.prog.info? 134).map (·.size) = some 1 := by kernel_rfl
theorem inf134.zero : (Try.prog.info? 134).map (·.zero) = some (some (.map none)) := by kernel_rfl
theorem inf135 : (Try.prog.info? 135).map (fun i => (i.zero, i.size, i.bytes)) = some (some (.map none), 1, 8) := by kernel_rfl
theorem inf135.size : (Try.prog.info? 135).map (·.size) = some 1 := by kernel_rfl
theorem inf135.zero : (Try.prog.info? 135).map (·.zero) = some (some (.map none)) := by kernel_rfl
theorem inf136 : (Try.prog.info? 136).map (fun i => (i.zero, i.size, i.bytes)) = some (some (.agg #[.map none, .map none, .map none, .slice none 0 0, .map none]), 5, 56) := by kernel_rfl
theorem inf136.size : (Try.prog.info? 136).map (·.size) = some 5 := by kernel_rfl
theorem inf136.zero : (Try.prog.info? 136).map (·.zero) = some (some (.agg #[.map none, .map none, .map none, .slice none 0 0, .map none])) := by kernel_rfl
theorem inf137 : (Try.prog.info? 137).map (fun i => (i.zero, i.size, i.bytes)) = some (some (.agg #[.map none, .map none, .map none, .slice none 0 0, .map none]), 5, 56) := by kernel_rfl
theorem inf137.size : (Try.prog.info? 137).map (·.size) = some 5 := by kernel_rfl
theorem inf137.zero : (Try.prog.info? 137).map (·.zero) = some (some (.agg #[.map none, .map none, .map none, .slice none 0 0, .map none])) := by kernel_rfl
theorem inf138 : (Try.prog.info? 138).map (fun i => (i.zero, i.size, i.bytes)) = some (some (.nilFunc), 1, 8) := by kernel_rfl
theorem inf138.size : (Try.prog.info? 138).map (·.size) = some 1 := by kernel_rfl
theorem inf138.zero : (Try.prog.info? 138).map (·.zero) = some (some (.nilFunc)) := by kernel_rfl
theorem inf139 : (Try.prog.info? 139).map (fun i => (i.zero, i.size, i.bytes)) = some (some (.nilFunc), 1, 8) := by kernel_rfl
theorem inf139.size : (Try.prog.info? 139).map (·.size) = some 1 := by kernel_rfl
theorem inf139.zero : (Try.prog.info? 139).map (·.zero) = some (some (.nilFunc)) := by kernel_rfl
theorem inf140 : (Try.prog.info? 140).map (fun i => (i.zero, i.size, i.bytes)) = some (some (.nilFunc), 1, 8) := by kernel_rfl
theorem inf140.size : (Try.prog.info? 140).map (·.size) = some 1 := by kernel_rfl
theorem inf140.zero : (Try.prog.info? 140).map (·.zero) = some (some (.nilFunc)) := by kernel_rfl
theorem inf141 : (Try.prog.info? 141).map (fun i => (i.zero, i.size, i.bytes)) = some (some (.agg #[.string ByteArray.empty, .int .i64 0, .int .i64 0, .string ByteArray.empty]), 4, 48) := by kernel_rfl
theorem inf141.size : (Try.prog.info? 141).map (·.size) = some 4 := by kernel_rfl
theorem inf141.zero : (Try.prog.info? 141).map (·.zero) = some (some (.agg #[.string ByteArray.empty, .int .i64 0, .int .i64 0, .string ByteArray.empty])) := by kernel_rfl
theorem inf142 : (Try.prog.info? 142).map (fun i => (i.zero, i.size, i.bytes)) = some (some (.agg #[.string ByteArray.empty, .int .i64 0, .int .i64 0, .string ByteArray.empty]), 4, 48) := by kernel_rfl
theorem inf142.size : (Try.prog.info? 142).map (·.size) = some 4 := by kernel_rfl
theorem inf142.zero : (Try.prog.info? 142).map (·.zero) = some (some (.agg #[.string ByteArray.empty, .int .i64 0, .int .i64 0, .string ByteArray.empty])) := by kernel_rfl
theorem inf143 : (Try.prog.info? 143).map (fun i => (i.zero, i.size, i.bytes)) = some (some (.nilFunc), 1, 8) := by kernel_rfl
theorem inf143.size : (Try.prog.info? 143).map (·.size) = some 1 := by kernel_rfl
theorem inf143.zero : (Try.prog.info? 143).map (·.zero) = some (some (.nilFunc)) := by kernel_rfl
theorem inf144 : (Try.prog.info? 144).map (fun i => (i.zero, i.size, i.bytes)) = some (some (.nilFunc), 1, 8) := by kernel_rfl
theorem inf144.size : (Try.prog.info? 144).map (·.size) = some 1 := by kernel_rfl
theorem inf144.zero : (Try.prog.info? 144).map (·.zero) = some (some (.nilFunc)) := by kernel_rfl
theorem inf145 : (Try.prog.info? 145).map (fun i => (i.zero, i.size, i.bytes)) = some (some (.tuple #[.agg #[.slice none 0 0, .slice none 0 0, .slice none 0 0, .slice none 0 0, .slice none 0 0], .agg #[.slice none 0 0, .slice none 0 0]]), 1, 0) := by kernel_rfl
theorem inf145.size : (Try.prog.info? 145).map (·.size) = some 1 := by kernel_rfl
theorem inf145.zero : (Try.prog.info? 145).map (·.zero) = some (some (.tuple #[.agg #[.slice none 0 0, .slice none 0 0, .slice none 0 0, .slice none 0 0, .slice none 0 0], .agg #[.slice none 0 0, .slice none 0 0]])) := by kernel_rfl
theorem inf146 : (Try.prog.info? 146).map (fun i => (i.zero, i.size, i.bytes)) = some (some (.nilFunc), 1, 8) := by kernel_rfl
theorem inf146.size : (Try.prog.info? 146).map (·.size) = some 1 := by kernel_rfl
theorem inf146.zero : (Try.prog.info? 146).map (·.zero) = some (some (.nilFunc)) := by kernel_rfl
theorem inf147 : (Try.prog.info? 147).map (fun i => (i.zero, i.size, i.bytes)) = some (some (.nilFunc), 1, 8) := by kernel_rfl
theorem inf147.size : (Try.prog.info? 147).map (·.size) = some 1 := by kernel_rfl
theorem inf147.zero : (Try.prog.info? 147).map (·.zero) = some (some (.nilFunc)) := by kernel_rfl
theorem inf148 : (Try.prog.info? 148).map (fun i => (i.zero, i.size, i.bytes)) = some (some (.nilFunc), 1, 8) := by kernel_rfl
theorem inf148.size : (Try.prog.info? 148).map (·.size) = some 1 := by kernel_rfl
theorem inf148.zero : (Try.prog.info? 148).map (·.zero) = some (some (.nilFunc)) := by kernel_rfl
theorem inf149 : (Try.prog.info? 149).map (fun i => (i.zero, i.size, i.bytes)) = some (some (.nilFunc), 1, 8) := by kernel_rfl
theorem inf149.size : (Try.prog.info? 149).map (·.size) = some 1 := by kernel_rfl
theorem inf149.zero : (Try.prog.info? 149).map (·.zero) = some (some (.nilFunc)) := by kernel_rfl
theorem inf150 : (Try.prog.info? 150).map (fun i => (i.zero, i.size, i.bytes)) = some (some (.nilFunc), 1, 8) := by kernel_rfl
theorem inf150.size : (Try.prog.info? 150).map (·.size) = some 1 := by kernel_rfl
theorem inf150.zero : (Try.prog.info? 150).map (·.zero) = some (some (.nilFunc)) := by kernel_rfl
theorem inf151 : (Try.prog.info? 151).map (fun i => (i.zero, i.size, i.bytes)) = some (some (.agg #[.slice none 0 0, .int .i64 0, .int .u64 0]), 3, 40) := by kernel_rfl
theorem inf151.size : (Try.prog.info? 151).map (·.size) = some 3 := by kernel_rfl
theorem inf151.zero : (Try.prog.info? 151).map (·.zero) = some (some (.agg #[.slice none 0 0, .int .i64 0, .int .u64 0])) := by kernel_rfl
theorem inf152 : (Try.prog.info? 152).map (fun i => (i.zero, i.size, i.bytes)) = some (some (.agg #[.slice none 0 0, .int .i64 0, .int .u64 0]), 3, 40) := by kernel_rfl
theorem inf152.size : (Try.prog.info? 152).map (·.size) = some 3 := by kernel_rfl
theorem inf152.zero : (Try.prog.info? 152).map (·.zero) = some (some (.agg #[.slice none 0 0, .int .i64 0, .int .u64 0])) := by kernel_rfl
theorem inf153 : (Try.prog.info? 153).map (fun i => (i.zero, i.size, i.bytes)) = some (some (.nilFunc), 1, 8) := by kernel_rfl
theorem inf153.size : (Try.prog.info? 153).map (·.size) = some 1 := by kernel_rfl
theorem inf153.zero : (Try.prog.info? 153).map (·.zero) = some (some (.nilFunc)) := by kernel_rfl
theorem inf154 : (Try.prog.info? 154).map (fun i => (i.zero, i.size, i.bytes)) = some (some (.nilFunc), 1, 8) := by kernel_rfl
theorem inf154.size : (Try.prog.info? 154).map (·.size) = some 1 := by kernel_rfl
theorem inf154.zero : (Try.prog.info? 154).map (·.zero) = some (some (.nilFunc)) := by kernel_rfl
theorem inf155 : (Try.prog.info? 155).map (fun i => (i.zero, i.size, i.bytes)) = some (some (.nilFunc), 1, 8) := by kernel_rfl
theorem inf155.size : (Try.prog.info? 155).map (·.size) = some 1 := by kernel_rfl
theorem inf155.zero : (Try.prog.info? 155).map (·.zero) = some (some (.nilFunc)) := by kernel_rfl
theorem inf156 : (Try.prog.info? 156).map (fun i => (i.zero, i.size, i.bytes)) = some (some (.agg #[.slice none 0 0, .slice none 0 0]), 2, 48) := by kernel_rfl
theorem inf156.size : (Try.prog.info? 156).map (·.size) = some 2 := by kernel_rfl
theorem inf156.zero : (Try.prog.info? 156).map (·.zero) = some (some (.agg #[.slice none 0 0, .slice none 0 0])) := by kernel_rfl
theorem inf157 : (Try.prog.info? 157).map (fun i => (i.zero, i.size, i.bytes)) = some (some (.agg #[.slice none 0 0, .slice none 0 0]), 2, 48) := by kernel_rfl
theorem inf157.size : (Try.prog.info? 157).map (·.size) = some 2 := by kernel_rfl
theorem inf157.zero : (Try.prog.info? 157).map (·.zero) = some (some (.agg #[.slice none 0 0, .slice none 0 0])) := by kernel_rfl
theorem inf158 : (Try.prog.info? 158).map (fun i => (i.zero, i.size, i.bytes)) = some (some (.agg #[.slice none 0 0, .slice none 0 0, .slice none 0 0, .slice none 0 0]), 4, 96) := by kernel_rfl
theorem inf158.size : (Try.prog.info? 158).map (·.size) = some 4 := by kernel_rfl
theorem inf158.zero : (Try.prog.info? 158).map (·.zero) = some (some (.agg #[.slice none 0 0, .slice none 0 0, .slice none 0 0, .slice none 0 0])) := by kernel_rfl
theorem inf159 : (Try.prog.info? 159).map (fun i => (i.zero, i.size, i.bytes)) = some (some (.slice none 0 0), 1, 24) := by kernel_rfl
theorem inf159.size : (Try.prog.info? 159).map (·.size) = some 1 := by kernel_rfl
theorem inf159.zero : (Try.prog.info? 159).map (·.zero) = some (some (.slice none 0 0)) := by kernel_rfl
theorem inf160 : (Try.prog.info? 160).map (fun i => (i.zero, i.size, i.bytes)) = some (some (.agg #[.int .i64 0, .slice none 0 0, .slice none 0 0, .slice none 0 0, .slice none 0 0, .slice none 0 0, .slice none 0 0]), 7, 152) := by kernel_rfl
theorem inf160.size : (Try.prog.info? 160).map (·.size) = some 7 := by kernel_rfl
theorem inf160.zero : (Try.prog.info? 160).map (·.zero) = some (some (.agg #[.int .i64 0, .slice none 0 0, .slice none 0 0, .slice none 0 0, .slice none 0 0, .slice none 0 0, .slice none 0 0])) := by kernel_rfl
theorem inf161 : (Try.prog.info? 161).map (fun i => (i.zero, i.size, i.bytes)) = some (some (.agg #[.int .i64 0, .slice none 0 0, .slice none 0 0, .slice none 0 0, .slice none 0 0, .slice none 0 0, .slice none 0 0]), 7, 152) := by kernel_rfl
theorem inf161.size : (Try.prog.info? 161).map (·.size) = some 7 := by kernel_rfl
theorem inf161.zero : (Try.prog.info? 161).map (·.zero) = some (some (.agg #[.int .i64 0, .slice none 0 0, .slice none 0 0, .slice none 0 0, .slice none 0 0, .slice none 0 0, .slice none 0 0])) := by kernel_rfl
theorem inf162 : (Try.prog.info? 162).map (fun i => (i.zero, i.size, i.bytes)) = some (some (.nilFunc), 1, 8) := by kernel_rfl
theorem inf162.size : (Try.prog.info? 162).map (·.size) = some 1 := by kernel_rfl
theorem inf162.zero : (Try.prog.info? 162).map (·.zero) = some (some (.nilFunc)) := by kernel_rfl
theorem inf163 : (Try.prog.info? 163).map (fun i => (i.zero, i.size, i.bytes)) = some (some (.agg #[.int .i64 0, .int .i64 0]), 2, 16) := by kernel_rfl
theorem inf163.size : (Try.prog.info? 163).map (·.size) = some 2 := by kernel_rfl
theorem inf163.zero : (Try.prog.info? 163).map (·.zero) = some (some (.agg #[.int .i64 0, .int .i64 0])) := by kernel_rfl
theorem inf164 : (Try.prog.info? 164).map (fun i => (i.zero, i.size, i.bytes)) = some (some (.nilFunc), 1, 8) := by kernel_rfl
theorem inf164.size : (Try.prog.info? 164).map (·.size) = some 1 := by kernel_rfl
theorem inf164.zero : (Try.prog.info? 164).map (·.zero) = some (some (.nilFunc)) := by kernel_rfl
theorem inf165 : (Try.prog.info? 165).map (fun i => (i.zero, i.size, i.bytes)) = some (some (.nilFunc), 1, 8) := by kernel_rfl
theorem inf165.size : (Try.prog.info? 165).map (·.size) = some 1 := by kernel_rfl
theorem inf165.zero : (Try.prog.info? 165).map (·.zero) = some (some (.nilFunc)) := by kernel_rfl
theorem inf166 : (Try.prog.info? 166).map (fun i => (i.zero, i.size, i.bytes)) = some (some (.nilFunc), 1, 8) := by kernel_rfl
theorem inf166.size : (Try.prog.info? 166).map (·.size) = some 1 := by kernel_rfl
theorem inf166.zero : (Try.prog.info? 166).map (·.zero) = some (some (.nilFunc)) := by kernel_rfl
theorem inf167 : (Try.prog.info? 167).map (fun i => (i.zero, i.size, i.bytes)) = some (some (.nilFunc), 1, 8) := by kernel_rfl
theorem inf167.size : (Try.prog.info? 167).map (·.size) = some 1 := by kernel_rfl
theorem inf167.zero : (Try.prog.info? 167).map (·.zero) = some (some (.nilFunc)) := by kernel_rfl
theorem inf168 : (Try.prog.info? 168).map (fun i => (i.zero, i.size, i.bytes)) = some (some (.nilFunc), 1, 8) := by kernel_rfl
theorem inf168.size : (Try.prog.info? 168).map (·.size) = some 1 := by kernel_rfl
theorem inf168.zero : (Try.prog.info? 168).map (·.zero) = some (some (.nilFunc)) := by kernel_rfl
theorem inf169 : (Try.prog.info? 169).map (fun i => (i.zero, i.size, i.bytes)) = some (some (.nilFunc), 1, 8) := by kernel_rfl
theorem inf169.size : (Try.prog.info? 169).map (·.size) = some 1 := by kernel_rfl
theorem inf169.zero : (Try.prog.info? 169).map (·.zero) = some (some (.nilFunc)) := by kernel_rfl
theorem inf170 : (Try.prog.info? 170).map (fun i => (i.zero, i.size, i.bytes)) = some (some (.nilFunc), 1, 8) := by kernel_rfl
theorem inf170.size : (Try.prog.info? 170).map (·.size) = some 1 := by kernel_rfl
theorem inf170.zero : (Try.prog.info? 170).map (·.zero) = some (some (.nilFunc)) := by kernel_rfl
theorem inf171 : (Try.prog.info? 171).map (fun i => (i.zero, i.size, i.bytes)) = some (some (.nilFunc), 1, 8) := by kernel_rfl
theorem inf171.size : (Try.prog.info? 171).map (·.size) = some 1 := by kernel_rfl
theorem inf171.zero : (Try.prog.info? 171).map (·.zero) = some (some (.nilFunc)) := by kernel_rfl
theorem inf172 : (Try.prog.info? 172).map (fun i => (i.zero, i.size, i.bytes)) = some (some (.nilFunc), 1, 8) := by kernel_rfl
theorem inf172.size : (Try.prog.info? 172).map (·.size) = some 1 := by kernel_rfl
theorem inf172.zero : (Try.prog.info? 172).map (·.zero) = some (some (.nilFunc)) := by kernel_rfl
theorem inf173 : (Try.prog.info? 173).map (fun i => (i.zero, i.size, i.bytes)) = some (some (.nilFunc), 1, 8) := by kernel_rfl
theorem inf173.size : (Try.prog.info? 173).map (·.size) = some 1 := by kernel_rfl
theorem inf173.zero : (Try.prog.info? 173).map (·.zero) = some (some (.nilFunc)) := by kernel_rfl
theorem inf174 : (Try.prog.info? 174).map (fun i => (i.zero, i.size, i.bytes)) = some (some (.agg #[.int .i64 0, .string ByteArray.empty]), 2, 24) := by kernel_rfl
theorem inf174.size : (Try.prog.info? 174).map (·.size) = some 2 := by kernel_rfl
theorem inf174.zero : (Try.prog.info? 174).map (·.zero) = some (some (.agg #[.int .i64 0, .string ByteArray.empty])) := by kernel_rfl
theorem inf175 : (Try.prog.info? 175).map (fun i => (i.zero, i.size, i.bytes)) = some (some (.agg #[.int .i64 0, .string ByteArray.empty]), 2, 24) := by kernel_rfl
theorem inf175.size : (Try.prog.info? 175).map (·.size) = some 2 := by kernel_rfl
theorem inf175.zero : (Try.prog.info? 175).map (·.zero) = some (some (.agg #[.int .i64 0, .string ByteArray.empty])) := by kernel_rfl
theorem inf176 : (Try.prog.info? 176).map (fun i => (i.zero, i.size, i.bytes)) = some (some (.nilFunc), 1, 8) := by kernel_rfl
theorem inf176.size : (Try.prog.info? 176).map (·.size) = some 1 := by kernel_rfl
theorem inf176.zero : (Try.prog.info? 176).map (·.zero) = some (some (.nilFunc)) := by kernel_rfl
theorem inf177 : (Try.prog.info? 177).map (fun i => (i.zero, i.size, i.bytes)) = some (some (.nilFunc), 1, 8) := by kernel_rfl
theorem inf177.size : (Try.prog.info? 177).map (·.size) = some 1 := by kernel_rfl
theorem inf177.zero : (Try.prog.info? 177).map (·.zero) = some (some (.nilFunc)) := by kernel_rfl
theorem inf178 : (Try.prog.info? 178).map (fun i => (i.zero, i.size, i.bytes)) = some (some (.nilFunc), 1, 8) := by kernel_rfl
theorem inf178.size : (Try.prog.info? 178).map (·.size) = some 1 := by kernel_rfl
theorem inf178.zero : (Try.prog.info? 178).map (·.zero) = some (some (.nilFunc)) := by kernel_rfl
theorem inf179 : (Try.prog.info? 179).map (fun i => (i.zero, i.size, i.bytes)) = some (some (.int .u64 0), 1, 8) := by kernel_rfl
theorem inf179.size : (Try.prog.info? 179).map (·.size) = some 1 := by kernel_rfl
theorem inf179.zero : (Try.prog.info? 179).map (·.zero) = some (some (.int .u64 0)) := by kernel_rfl
theorem inf180 : (Try.prog.info? 180).map (fun i => (i.zero, i.size, i.bytes)) = some (some (.nilFunc), 1, 8) := by kernel_rfl
theorem inf180.size : (Try.prog.info? 180).map (·.size) = some 1 := by kernel_rfl
theorem inf180.zero : (Try.prog.info? 180).map (·.zero) = some (some (.nilFunc)) := by kernel_rfl
theorem inf181 : (Try.prog.info? 181).map (fun i => (i.zero, i.size, i.bytes)) = some (some (.slice none 0 0), 1, 24) := by kernel_rfl
theorem inf181.size : (Try.prog.info? 181).map (·.size) = some 1 := by kernel_rfl
theorem inf181.zero : (Try.prog.info? 181).map (·.zero) = some (some (.slice none 0 0)) := by kernel_rfl
theorem inf182 : (Try.prog.info? 182).map (fun i => (i.zero, i.size, i.bytes)) = some (some (.nilFunc), 1, 8) := by kernel_rfl
theorem inf182.size : (Try.prog.info? 182).map (·.size) = some 1 := by kernel_rfl
theorem inf182.zero : (Try.prog.info? 182).map (·.zero) = some (some (.nilFunc)) := by kernel_rfl
theorem inf183 : (Try.prog.info? 183).map (fun i => (i.zero, i.size, i.bytes)) = some (some (.nilFunc), 1, 8) := by kernel_rfl
theorem inf183.size : (Try.prog.info? 183).map (·.size) = some 1 := by kernel_rfl
theorem inf183.zero : (Try.prog.info? 183).map (·.zero) = some (some (.nilFunc)) := by kernel_rfl
theorem inf184 : (Try.prog.info? 184).map (fun i => (i.zero, i.size, i.bytes)) = some (some (.nilFunc), 1, 8) := by kernel_rfl
theorem inf184.size : (Try.prog.info? 184).map (·.size) = some 1 := by kernel_rfl
theorem inf184.zero : (Try.prog.info? 184).map (·.zero) = some (some (.nilFunc)) := by kernel_rfl
theorem inf185 : (Try.prog.info? 185).map (fun i => (i.zero, i.size, i.bytes)) = some (some (.nilFunc), 1, 8) := by kernel_rfl
theorem inf185.size : (Try.prog.info? 185).map (·.size) = some 1 := by kernel_rfl
theorem inf185.zero : (Try.prog.info? 185).map (·.zero) = some (some (.nilFunc)) := by kernel_rfl
theorem inf186 : (Try.prog.info? 186).map (fun i => (i.zero, i.size, i.bytes)) = some (some (.nilFunc), 1, 8) := by kernel_rfl
theorem inf186.size : (Try.prog.info? 186).map (·.size) = some 1 := by kernel_rfl
theorem inf186.zero : (Try.prog.info? 186).map (·.zero) = some (some (.nilFunc)) := by kernel_rfl
theorem inf187 : (Try.prog.info? 187).map (fun i => (i.zero, i.size, i.bytes)) = some (some (.nilFunc), 1, 8) := by kernel_rfl
theorem inf187.size : (Try.prog.info? 187).map (·.size) = some 1 := by kernel_rfl
theorem inf187.zero : (Try.prog.info? 187).map (·.zero) = some (some (.nilFunc)) := by kernel_rfl
theorem inf188 : (Try.prog.info? 188).map (fun i => (i.zero, i.size, i.bytes)) = some (some (.nilFunc), 1, 8) := by kernel_rfl
theorem inf188.size : (Try.prog.info? 188).map (·.size) = some 1 := by kernel_rfl
theorem inf188.zero : (Try.prog.info? 188).map (·.zero) = some (some (.nilFunc)) := by kernel_rfl
theorem inf189 : (Try.prog.info? 189).map (fun i => (i.zero, i.size, i.bytes)) = some (some (.nilFunc), 1, 8) := by kernel_rfl
theorem inf189.size : (Try.prog.info? 189).map (·.size) = some 1 := by kernel_rfl
theorem inf189.zero : (Try.prog.info? 189).map (·.zero) = some (some (.nilFunc)) := by kernel_rfl
theorem inf190 : (Try.prog.info? 190).map (fun i => (i.zero, i.size, i.bytes)) = some (some (.nilFunc), 1, 8) := by kernel_rfl
theorem inf190.size : (Try.prog.info? 190).map (·.size) = some 1 := by kernel_rfl
theorem inf190.zero : (Try.prog.info? 190).map (·.zero) = some (some (.nilFunc)) := by kernel_rfl
theorem inf191 : (Try.prog.info? 191).map (fun i => (i.zero, i.size, i.bytes)) = some (some (.nilFunc), 1, 8) := by kernel_rfl
theorem inf191.size : (Try.prog.info? 191).map (·.size) = some 1 := by kernel_rfl
theorem inf191.zero : (Try.prog.info? 191).map (·.zero) = some (some (.nilFunc)) := by kernel_rfl
theorem inf192 : (Try.prog.info? 192).map (fun i => (i.zero, i.size, i.bytes)) = some (some (.nilFunc), 1, 8) := by kernel_rfl
theorem inf192.size : (Try.prog.info? 192).map (·.size) = some 1 := by kernel_rfl
theorem inf192.zero : (Try.prog.info? 192).map (·.zero) = some (some (.nilFunc)) := by kernel_rfl
theorem inf193 : (Try.prog.info? 193).map (fun i => (i.zero, i.size, i.bytes)) = some (some (.nilFunc), 1, 8) := by kernel_rfl
theorem inf193.size : (Try.prog.info? 193).map (·.size) = some 1 := by kernel_rfl
theorem inf193.zero : (Try.prog.info? 193).map (·.zero) = some (some (.nilFunc)) := by kernel_rfl
theorem inf194 : (Try.prog.info? 194).map (fun i => (i.zero, i.size, i.bytes)) = some (some (.map none), 1, 8) := by kernel_rfl
theorem inf194.size : (Try.prog.info? 194).map (·.size) = some 1 := by kernel_rfl
theorem inf194.zero : (Try.prog.info? 194).map (·.zero) = some (some (.map none)) := by kernel_rfl
theorem inf195 : (Try.prog.info? 195).map (fun i => (i.zero, i.size, i.bytes)) = some (some (.nilFunc), 1, 8) := by kernel_rfl
theorem inf195.size : (Try.prog.info? 195).map (·.size) = some 1 := by kernel_rfl
theorem inf195.zero : (Try.prog.info? 195).map (·.zero) = some (some (.nilFunc)) := by kernel_rfl
theorem inf196 : (Try.prog.info? 196).map (fun i => (i.zero, i.size, i.bytes)) = some (some (.nilFunc), 1, 8) := by kernel_rfl
theorem inf196.size : (Try.prog.info? 196).map (·.size) = some 1 := by kernel_rfl
theorem inf196.zero : (Try.prog.info? 196).map (·.zero) = some (some (.nilFunc)) := by kernel_rfl
theorem inf197 : (Try.prog.info? 197).map (fun i => (i.zero, i.size, i.bytes)) = some (some (.nilFunc), 1, 8) := by kernel_rfl
theorem inf197.size : (Try.prog.info? 197).map (·.size) = some 1 := by kernel_rfl
theorem inf197.zero : (Try.prog.info? 197).map (·.zero) = some (some (.nilFunc)) := by kernel_rfl
theorem inf198 : (Try.prog.info? 198).map (fun i => (i.zero, i.size, i.bytes)) = some (some (.nilFunc), 1, 8) := by kernel_rfl
theorem inf198.size : (Try.prog.info? 198).map (·.size) = some 1 := by kernel_rfl
theorem inf198.zero : (Try.prog.info? 198).map (·.zero) = some (some (.nilFunc)) := by kernel_rfl
theorem inf199 : (Try.prog.info? 199).map (fun i => (i.zero, i.size, i.bytes)) = some (some (.tuple #[.slice none 0 0, .int .i64 0]), 1, 0) := by kernel_rfl
theorem inf199.size : (Try.prog.info? 199).map (·.size) = some 1 := by kernel_rfl
theorem inf199.zero : (Try.prog.info? 199).map (·.zero) = some (some (.tuple #[.slice none 0 0, .int .i64 0])) := by kernel_rfl
theorem inf200 : (Try.prog.info? 200).map (fun i => (i.zero, i.size, i.bytes)) = some (some (.nilFunc), 1, 8) := by kernel_rfl
theorem inf200.size : (Try.prog.info? 200).map (·.size) = some 1 := by kernel_rfl
theorem inf200.zero : (Try.prog.info? 200).map (·.zero) = some (some (.nilFunc)) := by kernel_rfl
theorem inf201 : (Try.prog.info? 201).map (fun i => (i.zero, i.size, i.bytes)) = some (some (.nilFunc), 1, 8) := by kernel_rfl
theorem inf201.size : (Try.prog.info? 201).map (·.size) = some 1 := by kernel_rfl
theorem inf201.zero : (Try.prog.info? 201).map (·.zero) = some (some (.nilFunc)) := by kernel_rfl
theorem inf202 : (Try.prog.info? 202).map (fun i => (i.zero, i.size, i.bytes)) = some (some (.nilFunc), 1, 8) := by kernel_rfl
theorem inf202.size : (Try.prog.info? 202).map (·.size) = some 1 := by kernel_rfl
theorem inf202.zero : (Try.prog.info? 202).map (·.zero) = some (some (.nilFunc)) := by kernel_rfl
theorem inf203 : (Try.prog.info? 203).map (fun i => (i.zero, i.size, i.bytes)) = some (some (.nilFunc), 1, 8) := by kernel_rfl
theorem inf203.size : (Try.prog.info? 203).map (·.size) = some 1 := by kernel_rfl
theorem inf203.zero : (Try.prog.info? 203).map (·.zero) = some (some (.nilFunc)) := by kernel_rfl
theorem inf204 : (Try.prog.info? 204).map (fun i => (i.zero, i.size, i.bytes)) = some (some (.int .u32 0), 1, 4) := by kernel_rfl
theorem inf204.size : (Try.prog.info? 204).map (·.size) = some 1 := by kernel_rfl
theorem inf204.zero : (Try.prog.info? 204).map (·.zero) = some (some (.int .u32 0)) := by kernel_rfl
theorem inf205 : (Try.prog.info? 205).map (fun i => (i.zero, i.size, i.bytes)) = some (some (.tuple #[.int .u64 0, .int .u64 0]), 1, 0) := by kernel_rfl
theorem inf205.size : (Try.prog.info? 205).map (·.size) = some 1 := by kernel_rfl
theorem inf205.zero : (Try.prog.info? 205).map (·.zero) = some (some (.tuple #[.int .u64 0, .int .u64 0])) := by kernel_rfl
theorem inf206 : (Try.prog.info? 206).map (fun i => (i.zero, i.size, i.bytes)) = some (some (.nilFunc), 1, 8) := by kernel_rfl
theorem inf206.size : (Try.prog.info? 206).map (·.size) = some 1 := by kernel_rfl
theorem inf206.zero : (Try.prog.info? 206).map (·.zero) = some (some (.nilFunc)) := by kernel_rfl
theorem inf207 : (Try.prog.info? 207).map (fun i => (i.zero, i.size, i.bytes)) = some (some (.nilFunc), 1, 8) := by kernel_rfl
theorem inf207.size : (Try.prog.info? 207).map (·.size) = some 1 := by kernel_rfl
theorem inf207.zero : (Try.prog.info? 207).map (·.zero) = some (some (.nilFunc)) := by kernel_rfl
theorem inf208 : (Try.prog.info? 208).map (fun i => (i.zero, i.size, i.bytes)) = some (some (.int .i64 0), 1, 8) := by kernel_rfl
theorem inf208.size : (Try.prog.info? 208).map (·.size) = some 1 := by kernel_rfl
theorem inf208.zero : (Try.prog.info? 208).map (·.zero) = some (some (.int .i64 0)) := by kernel_rfl
theorem inf209 : (Try.prog.info? 209).map (fun i => (i.zero, i.size, i.bytes)) = some (some (.tuple #[.int .i64 0, .int .i64 0]), 1, 0) := by kernel_rfl
theorem inf209.size : (Try.prog.info? 209).map (·.size) = some 1 := by kernel_rfl
theorem inf209.zero : (Try.prog.info? 209).map (·.zero) = some (some (.tuple #[.int .i64 0, .int .i64 0])) := by kernel_rfl
theorem inf210 : (Try.prog.info? 210).map (fun i => (i.zero, i.size, i.bytes)) = some (some (.nilFunc), 1, 8) := by kernel_rfl
theorem inf210.size : (Try.prog.info? 210).map (·.size) = some 1 := by kernel_rfl
theorem inf210.zero : (Try.prog.info? 210).map (·.zero) = some (some (.nilFunc)) := by kernel_rfl
theorem inf211 : (Try.prog.info? 211).map (fun i => (i.zero, i.size, i.bytes)) = some (some (.nilFunc), 1, 8) := by kernel_rfl
theorem inf211.size : (Try.prog.info? 211).map (·.size) = some 1 := by kernel_rfl
theorem inf211.zero : (Try.prog.info? 211).map (·.zero) = some (some (.nilFunc)) := by kernel_rfl
theorem inf212 : (Try.prog.info? 212).map (fun i => (i.zero, i.size, i.bytes)) = some (some (.nilFunc), 1, 8) := by kernel_rfl
theorem inf212.size : (Try.prog.info? 212).map (·.size) = some 1 := by kernel_rfl
theorem inf212.zero : (Try.prog.info? 212).map (·.zero) = some (some (.nilFunc)) := by kernel_rfl
theorem inf213 : (Try.prog.info? 213).map (fun i => (i.zero, i.size, i.bytes)) = some (some (.nilFunc), 1, 8) := by kernel_rfl
theorem inf213.size : (Try.prog.info? 213).map (·.size) = some 1 := by kernel_rfl
theorem inf213.zero : (Try.prog.info? 213).map (·.zero) = some (some (.nilFunc)) := by kernel_rfl
theorem inf214 : (Try.prog.info? 214).map (fun i => (i.zero, i.size, i.bytes)) = some (some (.nilFunc), 1, 8) := by kernel_rfl
theorem inf214.size : (Try.prog.info? 214).map (·.size) = some 1 := by kernel_rfl
theorem inf214.zero : (Try.prog.info? 214).map (·.zero) = some (some (.nilFunc)) := by kernel_rfl
theorem inf215 : (Try.prog.info? 215).map (fun i => (i.zero, i.size, i.bytes)) = some (some (.nilFunc), 1, 8) := by kernel_rfl
theorem inf215.size : (Try.prog.info? 215).map (·.size) = some 1 := by kernel_rfl
theorem inf215.zero : (Try.prog.info? 215).map (·.zero) = some (some (.nilFunc)) := by kernel_rfl
theorem inf216 : (Try.prog.info? 216).map (fun i => (i.zero, i.size, i.bytes)) = some (some (.nilFunc), 1, 8) := by kernel_rfl
theorem inf216.size : (Try.prog.info? 216).map (·.size) = some 1 := by kernel_rfl
theorem inf216.zero : (Try.prog.info? 216).map (·.zero) = some (some (.nilFunc)) := by kernel_rfl
theorem inf217 : (Try.prog.info? 217).map (fun i => (i.zero, i.size, i.bytes)) = some (some (.nilFunc), 1, 8) := by kernel_rfl
theorem inf217.size : (Try.prog.info? 217).map (·.size) = some 1 := by kernel_rfl
theorem inf217.zero : (Try.prog.info? 217).map (·.zero) = some (some (.nilFunc)) := by kernel_rfl
theorem inf218 : (Try.prog.info? 218).map (fun i => (i.zero, i.size, i.bytes)) = some (some (.nilFunc), 1, 8) := by kernel_rfl
theorem inf218.size : (Try.prog.info? 218).map (·.size) = some 1 := by kernel_rfl
theorem inf218.zero : (Try.prog.info? 218).map (·.zero) = some (some (.nilFunc)) := by kernel_rfl
theorem inf219 : (Try.prog.info? 219).map (fun i => (i.zero, i.size, i.bytes)) = some (some (.nilFunc), 1, 8) := by kernel_rfl
theorem inf219.size : (Try.prog.info? 219).map (·.size) = some 1 := by kernel_rfl
theorem inf219.zero : (Try.prog.info? 219).map (·.zero) = some (some (.nilFunc)) := by kernel_rfl
theorem inf220 : (Try.prog.info? 220).map (fun i => (i.zero, i.size, i.bytes)) = some (some (.nilFunc), 1, 8) := by kernel_rfl
theorem inf220.size : (Try.prog.info? 220).map (·.size) = some 1 := by kernel_rfl
theorem inf220.zero : (Try.prog.info? 220).map (·.zero) = some (some (.nilFunc)) := by kernel_rfl
theorem inf221 : (Try.prog.info? 221).map (fun i => (i.zero, i.size, i.bytes)) = some (some (.nilFunc), 1, 8) := by kernel_rfl
theorem inf221.size : (Try.prog.info? 221).map (·.size) = some 1 := by kernel_rfl
theorem inf221.zero : (Try.prog.info? 221).map (·.zero) = some (some (.nilFunc)) := by kernel_rfl
theorem inf222 : (Try.prog.info? 222).map (fun i => (i.zero, i.size, i.bytes)) = some (some (.nilFunc), 1, 8) := by kernel_rfl
theorem inf222.size : (Try.prog.info? 222).map (·.size) = some 1 := by kernel_rfl
theorem inf222.zero : (Try.prog.info? 222).map (·.zero) = some (some (.nilFunc)) := by kernel_rfl
theorem inf223 : (Try.prog.info? 223).map (fun i => (i.zero, i.size, i.bytes)) = some (some (.nilFunc), 1, 8) := by kernel_rfl
theorem inf223.size : (Try.prog.info? 223).map (·.size) = some 1 := by kernel_rfl
theorem inf223.zero : (Try.prog.info? 223).map (·.zero) = some (some (.nilFunc)) := by kernel_rfl
theorem inf224 : (Try.prog.info? 224).map (fun i => (i.zero, i.size, i.bytes)) = some (some (.nilFunc), 1, 8) := by kernel_rfl
theorem inf224.size : (Try.prog.info? 224).map (·.size) = some 1 := by kernel_rfl
theorem inf224.zero : (Try.prog.info? 224).map (·.zero) = some (some (.nilFunc)) := by kernel_rfl
theorem inf225 : (Try.prog.info? 225).map (fun i => (i.zero, i.size, i.bytes)) = some (some (.nilFunc), 1, 8) := by kernel_rfl
theorem inf225.size : (Try.prog.info? 225).map (·.size) = some 1 := by kernel_rfl
theorem inf225.zero : (Try.prog.info? 225).map (·.zero) = some (some (.nilFunc)) := by kernel_rfl
theorem inf226 : (Try.prog.info? 226).map (fun i => (i.zero, i.size, i.bytes)) = some (some (.nilFunc), 1, 8) := by kernel_rfl
theorem inf226.size : (Try.prog.info? 226).map (·.size) = some 1 := by kernel_rfl
theorem inf226.zero : (Try.prog.info? 226).map (·.zero) = some (some (.nilFunc)) := by kernel_rfl
theorem inf227 : (Try.prog.info? 227).map (fun i => (i.zero, i.size, i.bytes)) = some (some (.nilFunc), 1, 8) := by kernel_rfl
theorem inf227.size : (Try.prog.info? 227).map (·.size) = some 1 := by kernel_rfl
theorem inf227.zero : (Try.prog.info? 227).map (·.zero) = some (some (.nilFunc)) := by kernel_rfl
theorem inf228 : (Try.prog.info? 228).map (fun i => (i.zero, i.size, i.bytes)) = some (some (.nilFunc), 1, 8) := by kernel_rfl
theorem inf228.size : (Try.prog.info? 228).map (·.size) = some 1 := by kernel_rfl
theorem inf228.zero : (Try.prog.info? 228).map (·.zero) = some (some (.nilFunc)) := by kernel_rfl
theorem inf229 : (Try.prog.info? 229).map (fun i => (i.zero, i.size, i.bytes)) = some (some (.nilFunc), 1, 8) := by kernel_rfl
theorem inf229.size : (Try.prog.info? 229).map (·.size) = some 1 := by kernel_rfl
theorem inf229.zero : (Try.prog.info? 229).map (·.zero) = some (some (.nilFunc)) := by kernel_rfl
theorem inf230 : (Try.prog.info? 230).map (fun i => (i.zero, i.size, i.bytes)) = some (some (.slice none 0 0), 1, 24) := by kernel_rfl
theorem inf230.size : (Try.prog.info? 230).map (·.size) = some 1 := by kernel_rfl
theorem inf230.zero : (Try.prog.info? 230).map (·.zero) = some (some (.slice none 0 0)) := by kernel_rfl
theorem inf231 : (Try.prog.info? 231).map (fun i => (i.zero, i.size, i.bytes)) = some (some (.nilFunc), 1, 8) := by kernel_rfl
theorem inf231.size : (Try.prog.info? 231).map (·.size) = some 1 := by kernel_rfl
theorem inf231.zero : (Try.prog.info? 231).map (·.zero) = some (some (.nilFunc)) := by kernel_rfl
theorem inf232 : (Try.prog.info? 232).map (fun i => (i.zero, i.size, i.bytes)) = some (some (.nilFunc), 1, 8) := by kernel_rfl
theorem inf232.size : (Try.prog.info? 232).map (·.size) = some 1 := by kernel_rfl
theorem inf232.zero : (Try.prog.info? 232).map (·.zero) = some (some (.nilFunc)) := by kernel_rfl
theorem inf233 : (Try.prog.info? 233).map (fun i => (i.zero, i.size, i.bytes)) = some (some (.nilFunc), 1, 8) := by kernel_rfl
theorem inf233.size : (Try.prog.info? 233).map (·.size) = some 1 := by kernel_rfl
theorem inf233.zero : (Try.prog.info? 233).map (·.zero) = some (some (.nilFunc)) := by kernel_rfl
theorem inf234 : (Try.prog.info? 234).map (fun i => (i.zero, i.size, i.bytes)) = some (some (.nilFunc), 1, 8) := by kernel_rfl
theorem inf234.size : (Try.prog.info? 234).map (·.size) = some 1 := by kernel_rfl
theorem inf234.zero : (Try.prog.info? 234).map (·.zero) = some (some (.nilFunc)) := by kernel_rfl
theorem inf235 : (Try.prog.info? 235).map (fun i => (i.zero, i.size, i.bytes)) = some (some (.nilFunc), 1, 8) := by kernel_rfl
theorem inf235.size : (Try.prog.info? 235).map (·.size) = some 1 := by kernel_rfl
theorem inf235.zero : (Try.prog.info? 235).map (·.zero) = some (some (.nilFunc)) := by kernel_rfl
theorem inf236 : (Try.prog.info? 236).map (fun i => (i.zero, i.size, i.bytes)) = some (some (.slice none 0 0), 1, 24) := by kernel_rfl
theorem inf236.size : (Try.prog.info? 236).map (·.size) = some 1 := by kernel_rfl
theorem inf236.zero : (Try.prog.info? 236).map (·.zero) = some (some (.slice none 0 0)) := by kernel_rfl
theorem inf237 : (Try.prog.info? 237).map (fun i => (i.zero, i.size, i.bytes)) = some (some (.slice none 0 0), 1, 24) := by kernel_rfl
theorem inf237.size : (Try.prog.info? 237).map (·.size) = some 1 := by kernel_rfl
theorem inf237.zero : (Try.prog.info? 237).map (·.zero) = some (some (.slice none 0 0)) := by kernel_rfl
theorem inf238 : (Try.prog.info? 238).map (fun i => (i.zero, i.size, i.bytes)) = some (some (.nilFunc), 1, 8) := by kernel_rfl
theorem inf238.size : (Try.prog.info? 238).map (·.size) = some 1 := by kernel_rfl
theorem inf238.zero : (Try.prog.info? 238).map (·.zero) = some (some (.nilFunc)) := by kernel_rfl
theorem inf239 : (Try.prog.info? 239).map (fun i => (i.zero, i.size, i.bytes)) = some (some (.int .u64 0), 1, 8) := by kernel_rfl
theorem inf239.size : (Try.prog.info? 239).map (·.size) = some 1 := by kernel_rfl
theorem inf239.zero : (Try.prog.info? 239).map (·.zero) = some (some (.int .u64 0)) := by kernel_rfl
theorem inf240 : (Try.prog.info? 240).map (fun i => (i.zero, i.size, i.bytes)) = some (some (.nilFunc), 1, 8) := by kernel_rfl
theorem inf240.size : (Try.prog.info? 240).map (·.size) = some 1 := by kernel_rfl
theorem inf240.zero : (Try.prog.info? 240).map (·.zero) = some (some (.nilFunc)) := by kernel_rfl
theorem inf241 : (Try.prog.info? 241).map (fun i => (i.zero, i.size, i.bytes)) = some (some (.nilFunc), 1, 8) := by kernel_rfl
theorem inf241.size : (Try.prog.info? 241).map (·.size) = some 1 := by kernel_rfl
theorem inf241.zero : (Try.prog.info? 241).map (·.zero) = some (some (.nilFunc)) := by kernel_rfl
theorem inf242 : (Try.prog.info? 242).map (fun i => (i.zero, i.size, i.bytes)) = some (some (.nilFunc), 1, 8) := by kernel_rfl
theorem inf242.size : (Try.prog.info? 242).map (·.size) = some 1 := by kernel_rfl
theorem inf242.zero : (Try.prog.info? 242).map (·.zero) = some (some (.nilFunc)) := by kernel_rfl
theorem inf243 : (Try.prog.info? 243).map (fun i => (i.zero, i.size, i.bytes)) = some (some (.pointer none), 1, 8) := by kernel_rfl
theorem inf243.size : (Try.prog.info? 243).map (·.size) = some 1 := by kernel_rfl
theorem inf243.zero : (Try.prog.info? 243).map (·.zero) = some (some (.pointer none)) := by kernel_rfl
theorem inf244 : (Try.prog.info? 244).map (fun i => (i.zero, i.size, i.bytes)) = some (some (.nilFunc), 1, 8) := by kernel_rfl
theorem inf244.size : (Try.prog.info? 244).map (·.size) = some 1 := by kernel_rfl
theorem inf244.zero : (Try.prog.info? 244).map (·.zero) = some (some (.nilFunc)) := by kernel_rfl
theorem inf245 : (Try.prog.info? 245).map (fun i => (i.zero, i.size, i.bytes)) = some (some (.nilFunc), 1, 8) := by kernel_rfl
theorem inf245.size : (Try.prog.info? 245).map (·.size) = some 1 := by kernel_rfl
theorem inf245.zero : (Try.prog.info? 245).map (·.zero) = some (some (.nilFunc)) := by kernel_rfl
theorem inf246 : (Try.prog.info? 246).map (fun i => (i.zero, i.size, i.bytes)) = some (some (.nilFunc), 1, 8) := by kernel_rfl
theorem inf246.size : (Try.prog.info? 246).map (·.size) = some 1 := by kernel_rfl
theorem inf246.zero : (Try.prog.info? 246).map (·.zero) = some (some (.nilFunc)) := by kernel_rfl
theorem inf247 : (Try.prog.info? 247).map (fun i => (i.zero, i.size, i.bytes)) = some (some (.nilFunc), 1, 8) := by kernel_rfl
theorem inf247.size : (Try.prog.info? 247).map (·.size) = some 1 := by kernel_rfl
theorem inf247.zero : (Try.prog.info? 247).map (·.zero) = some (some (.nilFunc)) := by kernel_rfl
theorem inf248 : (Try.prog.info? 248).map (fun i => (i.zero, i.size, i.bytes)) = some (some (.nilFunc), 1, 8) := by kernel_rfl
theorem inf248.size : (Try.prog.info? 248).map (·.size) = some 1 := by kernel_rfl
theorem inf248.zero : (Try.prog.info? 248).map (·.zero) = some (some (.nilFunc)) := by kernel_rfl
theorem inf249 : (Try.prog.info? 249).map (fun i => (i.zero, i.size, i.bytes)) = some (some (.pointer none), 1, 8) := by kernel_rfl
theorem inf249.size : (Try.prog.info? 249).map (·.size) = some 1 := by kernel_rfl
theorem inf249.zero : (Try.prog.info? 249).map (·.zero) = some (some (.pointer none)) := by kernel_rfl
theorem inf250 : (Try.prog.info? 250).map (fun i => (i.zero, i.size, i.bytes)) = some (some (.tuple #[.int .i64 0, .int .i64 0]), 1, 0) := by kernel_rfl
theorem inf250.size : (Try.prog.info? 250).map (·.size) = some 1 := by kernel_rfl
theorem inf250.zero : (Try.prog.info? 250).map (·.zero) = some (some (.tuple #[.int .i64 0, .int .i64 0])) := by kernel_rfl
theorem inf251 : (Try.prog.info? 251).map (fun i => (i.zero, i.size, i.bytes)) = some (some (.nilFunc), 1, 8) := by kernel_rfl
theorem inf251.size : (Try.prog.info? 251).map (·.size) = some 1 := by kernel_rfl
theorem inf251.zero : (Try.prog.info? 251).map (·.zero) = some (some (.nilFunc)) := by kernel_rfl
theorem inf252 : (Try.prog.info? 252).map (fun i => (i.zero, i.size, i.bytes)) = some (some (.nilFunc), 1, 8) := by kernel_rfl
theorem inf252.size : (Try.prog.info? 252).map (·.size) = some 1 := by kernel_rfl
theorem inf252.zero : (Try.prog.info? 252).map (·.zero) = some (some (.nilFunc)) := by kernel_rfl
theorem inf253 : (Try.prog.info? 253).map (fun i => (i.zero, i.size, i.bytes)) = some (some (.nilFunc), 1, 8) := by kernel_rfl
theorem inf253.size : (Try.prog.info? 253).map (·.size) = some 1 := by kernel_rfl
theorem inf253.zero : (Try.prog.info? 253).map (·.zero) = some (some (.nilFunc)) := by kernel_rfl
theorem inf254 : (Try.prog.info? 254).map (fun i => (i.zero, i.size, i.bytes)) = some (some (.nilFunc), 1, 8) := by kernel_rfl
theorem inf254.size : (Try.prog.info? 254).map (·.size) = some 1 := by kernel_rfl
theorem inf254.zero : (Try.prog.info? 254).map (·.zero) = some (some (.nilFunc)) := by kernel_rfl
theorem inf255 : (Try.prog.info? 255).map (fun i => (i.zero, i.size, i.bytes)) = some (some (.nilFunc), 1, 8) := by kernel_rfl
theorem inf255.size : (Try.prog.info? 255).map (·.size) = some 1 := by kernel_rfl
theorem inf255.zero : (Try.prog.info? 255).map (·.zero) = some (some (.nilFunc)) := by kernel_rfl
theorem inf256 : (Try.prog.info? 256).map (fun i => (i.zero, i.size, i.bytes)) = some (some (.nilFunc), 1, 8) := by kernel_rfl
theorem inf256.size : (Try.prog.info? 256).map (·.size) = some 1 := by kernel_rfl
theorem inf256.zero : (Try.prog.info? 256).map (·.zero) = some (some (.nilFunc)) := by kernel_rfl
theorem inf257 : (Try.prog.info? 257).map (fun i => (i.zero, i.size, i.bytes)) = some (some (.nilFunc), 1, 8) := by kernel_rfl
theorem inf257.size : (Try.prog.info? 257).map (·.size) = some 1 := by kernel_rfl
theorem inf257.zero : (Try.prog.info? 257).map (·.zero) = some (some (.nilFunc)) := by kernel_rfl
theorem inf258 : (Try.prog.info? 258).map (fun i => (i.zero, i.size, i.bytes)) = some (some (.nilFunc), 1, 8) := by kernel_rfl
theorem inf258.size : (Try.prog.info? 258).map (·.size) = some 1 := by kernel_rfl
theorem inf258.zero : (Try.prog.info? 258).map (·.zero) = some (some (.nilFunc)) := by kernel_rfl
theorem inf259 : (Try.prog.info? 259).map (fun i => (i.zero, i.size, i.bytes)) = some (some (.nilFunc), 1, 8) := by kernel_rfl
theorem inf259.size : (Try.prog.info? 259).map (·.size) = some 1 := by kernel_rfl
theorem inf259.zero : (Try.prog.info? 259).map (·.zero) = some (some (.nilFunc)) := by kernel_rfl
theorem inf260 : (Try.prog.info? 260).map (fun i => (i.zero, i.size, i.bytes)) = some (some (.nilFunc), 1, 8) := by kernel_rfl
theorem inf260.size : (Try.prog.info? 260).map (·.size) = some 1 := by kernel_rfl
theorem inf260.zero : (Try.prog.info? 260).map (·.zero) = some (some (.nilFunc)) := by kernel_rfl
theorem inf261 : (Try.prog.info? 261).map (fun i => (i.zero, i.size, i.bytes)) = some (some (.nilFunc), 1, 8) := by kernel_rfl
theorem inf261.size : (Try.prog.info? 261).map (·.size) = some 1 := by kernel_rfl
theorem inf261.zero : (Try.prog.info? 261).map (·.zero) = some (some (.nilFunc)) := by kernel_rfl
theorem inf263 : (Try.prog.info? 263).map (fun i => (i.zero, i.size, i.bytes)) = some (some (.nilFunc), 1, 8) := by kernel_rfl
theorem inf263.size : (Try.prog.info? 263).map (·.size) = some 1 := by kernel_rfl
theorem inf263.zero : (Try.prog.info? 263).map (·.zero) = some (some (.nilFunc)) := by kernel_rfl
theorem inf264 : (Try.prog.info? 264).map (fun i => (i.zero, i.size, i.bytes)) = some (some (.nilFunc), 1, 8) := by kernel_rfl
theorem inf264.size : (Try.prog.info? 264).map (·.size) = some 1 := by kernel_rfl
theorem inf264.zero : (Try.prog.info? 264).map (·.zero) = some (some (.nilFunc)) := by kernel_rfl
theorem inf265 : (Try.prog.info? 265).map (fun i => (i.zero, i.size, i.bytes)) = some (some (.nilFunc), 1, 8) := by kernel_rfl
theorem inf265.size : (Try.prog.info? 265).map (·.size) = some 1 := by kernel_rfl
theorem inf265.zero : (Try.prog.info? 265).map (·.zero) = some (some (.nilFunc)) := by kernel_rfl
theorem inf266 : (Try.prog.info? 266).map (fun i => (i.zero, i.size, i.bytes)) = some (some (.nilFunc), 1, 8) := by kernel_rfl
theorem inf266.size : (Try.prog.info? 266).map (·.size) = some 1 := by kernel_rfl
theorem inf266.zero : (Try.prog.info? 266).map (·.zero) = some (some (.nilFunc)) := by kernel_rfl
theorem inf267 : (Try.prog.info? 267).map (fun i => (i.zero, i.size, i.bytes)) = some (some (.agg #[.pointer none, .pointer none, .pointer none, .string ByteArray.empty]), 4, 40) := by kernel_rfl
theorem inf267.size : (Try.prog.info? 267).map (·.size) = some 4 := by kernel_rfl
theorem inf267.zero : (Try.prog.info? 267).map (·.zero) = some (some (.agg #[.pointer none, .pointer none, .pointer none, .string ByteArray.empty])) := by kernel_rfl
theorem inf268 : (Try.prog.info? 268).map (fun i => (i.zero, i.size, i.bytes)) = some (some (.agg #[.pointer none, .pointer none, .pointer none, .string ByteArray.empty]), 4, 40) := by kernel_rfl
theorem inf268.size : (Try.prog.info? 268).map (·.size) = some 4 := by kernel_rfl
theorem inf268.zero : (Try.prog.info? 268).map (·.zero) = some (some (.agg #[.pointer none, .pointer none, .pointer none, .string ByteArray.empty])) := by kernel_rfl
theorem inf269 : (Try.prog.info? 269).map (fun i => (i.zero, i.size, i.bytes)) = some (some (.agg #[]), 0, 0) := by kernel_rfl
theorem inf269.size : (Try.prog.info? 269).map (·.size) = some 0 := by kernel_rfl
theorem inf269.zero : (Try.prog.info? 269).map (·.zero) = some (some (.agg #[])) := by kernel_rfl
theorem inf270 : (Try.prog.info? 270).map (fun i => (i.zero, i.size, i.bytes)) = some (some (.agg #[]), 0, 0) := by kernel_rfl
theorem inf270.size : (Try.prog.info? 270).map (·.size) = some 0 := by kernel_rfl
theorem inf270.zero : (Try.prog.info? 270).map (·.zero) = some (some (.agg #[])) := by kernel_rfl
theorem inf271 : (Try.prog.info? 271).map (fun i => (i.zero, i.size, i.bytes)) = some (some (.agg #[]), 0, 0) := by kernel_rfl
theorem inf271.size : (Try.prog.info? 271).map (·.size) = some 0 := by kernel_rfl
theorem inf271.zero : (Try.prog.info? 271).map (·.zero) = some (some (.agg #[])) := by kernel_rfl
theorem inf272 : (Try.prog.info? 272).map (fun i => (i.zero, i.size, i.bytes)) = some (some (.int .u8 0), 1, 1) := by kernel_rfl
theorem inf272.size : (Try.prog.info? 272).map (·.size) = some 1 := by kernel_rfl
theorem inf272.zero : (Try.prog.info? 272).map (·.zero) = some (some (.int .u8 0)) := by kernel_rfl
theorem inf273 : (Try.prog.info? 273).map (fun i => (i.zero, i.size, i.bytes)) = some (some (.int .u8 0), 1, 1) := by kernel_rfl
theorem inf273.size : (Try.prog.info? 273).map (·.size) = some 1 := by kernel_rfl
theorem inf273.zero : (Try.prog.info? 273).map (·.zero) = some (some (.int .u8 0)) := by kernel_rfl
theorem inf274 : (Try.prog.info? 274).map (fun i => (i.zero, i.size, i.bytes)) = some (some (.nilFunc), 1, 8) := by kernel_rfl
theorem inf274.size : (Try.prog.info? 274).map (·.size) = some 1 := by kernel_rfl
theorem inf274.zero : (Try.prog.info? 274).map (·.zero) = some (some (.nilFunc)) := by kernel_rfl
theorem inf275 : (Try.prog.info? 275).map (fun i => (i.zero, i.size, i.bytes)) = some (some (.pointer none), 1, 8) := by kernel_rfl
theorem inf275.size : (Try.prog.info? 275).map (·.size) = some 1 := by kernel_rfl
theorem inf275.zero : (Try.prog.info? 275).map (·.zero) = some (some (.pointer none)) := by kernel_rfl
theorem inf276 : (Try.prog.info? 276).map (fun i => (i.zero, i.size, i.bytes)) = some (some (.int .i32 0), 1, 4) := by kernel_rfl
theorem inf276.size : (Try.prog.info? 276).map (·.size) = some 1 := by kernel_rfl
theorem inf276.zero : (Try.prog.info? 276).map (·.zero) = some (some (.int .i32 0)) := by kernel_rfl
theorem inf277 : (Try.prog.info? 277).map (fun i => (i.zero, i.size, i.bytes)) = some (some (.int .i32 0), 1, 4) := by kernel_rfl
theorem inf277.size : (Try.prog.info? 277).map (·.size) = some 1 := by kernel_rfl
theorem inf277.zero : (Try.prog.info? 277).map (·.zero) = some (some (.int .i32 0)) := by kernel_rfl
theorem inf278 : (Try.prog.info? 278).map (fun i => (i.zero, i.size, i.bytes)) = some (some (.agg #[.int .u64 0, .int .u64 0, .int .u32 0, .int .u8 0, .int .u8 0, .int .u8 0, .int .u8 0, .nilFunc, .pointer none, .int .i32 0, .int .i32 0]), 11, 48) := by kernel_rfl
theorem inf278.size : (Try.prog.info? 278).map (·.size) = some 11 := by kernel_rfl
theorem inf278.zero : (Try.prog.info? 278).map (·.zero) = some (some (.agg #[.int .u64 0, .int .u64 0, .int .u32 0, .int .u8 0, .int .u8 0, .int .u8 0, .int .u8 0, .nilFunc, .pointer none, .int .i32 0, .int .i32 0])) := by kernel_rfl
theorem inf279 : (Try.prog.info? 279).map (fun i => (i.zero, i.size, i.bytes)) = some (some (.agg #[.int .u64 0, .int .u64 0, .int .u32 0, .int .u8 0, .int .u8 0, .int .u8 0, .int .u8 0, .nilFunc, .pointer none, .int .i32 0, .int .i32 0]), 11, 48) := by kernel_rfl
theorem inf279.size : (Try.prog.info? 279).map (·.size) = some 11 := by kernel_rfl
theorem inf279.zero : (Try.prog.info? 279).map (·.zero) = some (some (.agg #[.int .u64 0, .int .u64 0, .int .u32 0, .int .u8 0, .int .u8 0, .int .u8 0, .int .u8 0, .nilFunc, .pointer none, .int .i32 0, .int .i32 0])) := by kernel_rfl
theorem inf280 : (Try.prog.info? 280).map (fun i => (i.zero, i.size, i.bytes)) = some (some (.pointer none), 1, 8) := by kernel_rfl
theorem inf280.size : (Try.prog.info? 280).map (·.size) = some 1 := by kernel_rfl
theorem inf280.zero : (Try.prog.info? 280).map (·.zero) = some (some (.pointer none)) := by kernel_rfl
end Go.Proofs.Ytnkjikpmgeknbaa.Am
