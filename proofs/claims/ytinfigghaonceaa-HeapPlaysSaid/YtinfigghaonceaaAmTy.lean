/- What the program says of its types. Printed by a program of mine. -/
import Derived.Test.YtinfigghaonceaaProg
import Derived.KernelRfl
namespace Go.Proofs.Ytinfigghaonceaa.Am
open Go
theorem inf0 : (Try.prog.info? 0).map (fun i => (i.zero, i.size, i.bytes)) = some (some (.tuple #[]), 1, 0) := by kernel_rfl
theorem inf0.size : (Try.prog.info? 0).map (·.size) = some 1 := by kernel_rfl
theorem inf0.zero : (Try.prog.info? 0).map (·.zero) = some (some (.tuple #[])) := by kernel_rfl
theorem inf1 : (Try.prog.info? 1).map (fun i => (i.zero, i.size, i.bytes)) = some (some (.nilFunc), 1, 8) := by kernel_rfl
theorem inf1.size : (Try.prog.info? 1).map (·.size) = some 1 := by kernel_rfl
theorem inf1.zero : (Try.prog.info? 1).map (·.zero) = some (some (.nilFunc)) := by kernel_rfl
theorem inf2 : (Try.prog.info? 2).map (fun i => (i.zero, i.size, i.bytes)) = some (some (.int .i64 0), 1, 8) := by kernel_rfl
theorem inf2.size : (Try.prog.info? 2).map (·.size) = some 1 := by kernel_rfl
theorem inf2.zero : (Try.prog.info? 2).map (·.zero) = some (some (.int .i64 0)) := by kernel_rfl
theorem inf3 : (Try.prog.info? 3).map (fun i => (i.zero, i.size, i.bytes)) = some (some (.int .i64 0), 1, 8) := by kernel_rfl
theorem inf3.size : (Try.prog.info? 3).map (·.size) = some 1 := by kernel_rfl
theorem inf3.zero : (Try.prog.info? 3).map (·.zero) = some (some (.int .i64 0)) := by kernel_rfl
theorem inf4 : (Try.prog.info? 4).map (fun i => (i.zero, i.size, i.bytes)) = some (some (.bool false), 1, 1) := by kernel_rfl
theorem inf4.size : (Try.prog.info? 4).map (·.size) = some 1 := by kernel_rfl
theorem inf4.zero : (Try.prog.info? 4).map (·.zero) = some (some (.bool false)) := by kernel_rfl
theorem inf5 : (Try.prog.info? 5).map (fun i => (i.zero, i.size, i.bytes)) = some (some (.int .u8 0), 1, 1) := by kernel_rfl
theorem inf5.size : (Try.prog.info? 5).map (·.size) = some 1 := by kernel_rfl
theorem inf5.zero : (Try.prog.info? 5).map (·.zero) = some (some (.int .u8 0)) := by kernel_rfl
theorem inf6 : (Try.prog.info? 6).map (fun i => (i.zero, i.size, i.bytes)) = some (some (.int .u8 0), 1, 1) := by kernel_rfl
theorem inf6.size : (Try.prog.info? 6).map (·.size) = some 1 := by kernel_rfl
theorem inf6.zero : (Try.prog.info? 6).map (·.zero) = some (some (.int .u8 0)) := by kernel_rfl
theorem inf7 : (Try.prog.info? 7).map (fun i => (i.zero, i.size, i.bytes)) = some (some (.agg #[.int .i64 0, .int .i64 0, .bool false, .int .u8 0]), 4, 24) := by kernel_rfl
theorem inf7.size : (Try.prog.info? 7).map (·.size) = some 4 := by kernel_rfl
theorem inf7.zero : (Try.prog.info? 7).map (·.zero) = some (some (.agg #[.int .i64 0, .int .i64 0, .bool false, .int .u8 0])) := by kernel_rfl
theorem inf8 : (Try.prog.info? 8).map (fun i => (i.zero, i.size, i.bytes)) = some (some (.agg #[.int .i64 0, .int .i64 0, .bool false, .int .u8 0]), 4, 24) := by kernel_rfl
theorem inf8.size : (Try.prog.info? 8).map (·.size) = some 4 := by kernel_rfl
theorem inf8.zero : (Try.prog.info? 8).map (·.zero) = some (some (.agg #[.int .i64 0, .int .i64 0, .bool false, .int .u8 0])) := by kernel_rfl
theorem inf9 : (Try.prog.info? 9).map (fun i => (i.zero, i.size, i.bytes)) = some (some (.string ByteArray.empty), 1, 16) := by kernel_rfl
theorem inf9.size : (Try.prog.info? 9).map (·.size) = some 1 := by kernel_rfl
theorem inf9.zero : (Try.prog.info? 9).map (·.zero) = some (some (.string ByteArray.empty)) := by kernel_rfl
theorem inf10 : (Try.prog.info? 10).map (fun i => (i.zero, i.size, i.bytes)) = some (some (.string ByteArray.empty), 1, 16) := by kernel_rfl
theorem inf10.size : (Try.prog.info? 10).map (·.size) = some 1 := by kernel_rfl
theorem inf10.zero : (Try.prog.info? 10).map (·.zero) = some (some (.string ByteArray.empty)) := by kernel_rfl
theorem inf11 : (Try.prog.info? 11).map (fun i => (i.zero, i.size, i.bytes)) = some (some (.string ByteArray.empty), 1, 16) := by kernel_rfl
theorem inf11.size : (Try.prog.info? 11).map (·.size) = some 1 := by kernel_rfl
theorem inf11.zero : (Try.prog.info? 11).map (·.zero) = some (some (.string ByteArray.empty)) := by kernel_rfl
theorem inf12 : (Try.prog.info? 12).map (fun i => (i.zero, i.size, i.bytes)) = some (some (.int .u64 0), 1, 8) := by kernel_rfl
theorem inf12.size : (Try.prog.info? 12).map (·.size) = some 1 := by kernel_rfl
theorem inf12.zero : (Try.prog.info? 12).map (·.zero) = some (some (.int .u64 0)) := by kernel_rfl
theorem inf13 : (Try.prog.info? 13).map (fun i => (i.zero, i.size, i.bytes)) = some (some (.agg #[.string ByteArray.empty, .int .u64 0]), 2, 24) := by kernel_rfl
theorem inf13.size : (Try.prog.info? 13).map (·.size) = some 2 := by kernel_rfl
theorem inf13.zero : (Try.prog.info? 13).map (·.zero) = some (some (.agg #[.string ByteArray.empty, .int .u64 0])) := by kernel_rfl
theorem inf14 : (Try.prog.info? 14).map (fun i => (i.zero, i.size, i.bytes)) = some (some (.agg #[.string ByteArray.empty, .int .u64 0]), 2, 24) := by kernel_rfl
theorem inf14.size : (Try.prog.info? 14).map (·.size) = some 2 := by kernel_rfl
theorem inf14.zero : (Try.prog.info? 14).map (·.zero) = some (some (.agg #[.string ByteArray.empty, .int .u64 0])) := by kernel_rfl
theorem inf15 : (Try.prog.info? 15).map (fun i => (i.zero, i.size, i.bytes)) = some (some (.pointer none), 1, 8) := by kernel_rfl
theorem inf15.size : (Try.prog.info? 15).map (·.size) = some 1 := by kernel_rfl
theorem inf15.zero : (Try.prog.info? 15).map (·.zero) = some (some (.pointer none)) := by kernel_rfl
theorem inf16 : (Try.prog.info? 16).map (fun i => (i.zero, i.size, i.bytes)) = some (some (.pointer none), 1, 8) := by kernel_rfl
theorem inf16.size : (Try.prog.info? 16).map (·.size) = some 1 := by kernel_rfl
theorem inf16.zero : (Try.prog.info? 16).map (·.zero) = some (some (.pointer none)) := by kernel_rfl
theorem inf17 : (Try.prog.info? 17).map (fun i => (i.zero, i.size, i.bytes)) = some (some (.pointer none), 1, 8) := by kernel_rfl
theorem inf17.size : (Try.prog.info? 17).map (·.size) = some 1 := by kernel_rfl
theorem inf17.zero : (Try.prog.info? 17).map (·.zero) = some (some (.pointer none)) := by kernel_rfl
theorem inf18 : (Try.prog.info? 18).map (fun i => (i.zero, i.size, i.bytes)) = some (some (.agg #[.pointer none]), 1, 8) := by kernel_rfl
theorem inf18.size : (Try.prog.info? 18).map (·.size) = some 1 := by kernel_rfl
theorem inf18.zero : (Try.prog.info? 18).map (·.zero) = some (some (.agg #[.pointer none])) := by kernel_rfl
theorem inf19 : (Try.prog.info? 19).map (fun i => (i.zero, i.size, i.bytes)) = some (some (.agg #[.pointer none]), 1, 8) := by kernel_rfl
theorem inf19.size : (Try.prog.info? 19).map (·.size) = some 1 := by kernel_rfl
theorem inf19.zero : (Try.prog.info? 19).map (·.zero) = some (some (.agg #[.pointer none])) := by kernel_rfl
theorem inf20 : (Try.prog.info? 20).map (fun i => (i.zero, i.size, i.bytes)) = some (some (.nilIface), 1, 16) := by kernel_rfl
theorem inf20.size : (Try.prog.info? 20).map (·.size) = some 1 := by kernel_rfl
theorem inf20.zero : (Try.prog.info? 20).map (·.zero) = some (some (.nilIface)) := by kernel_rfl
theorem inf21 : (Try.prog.info? 21).map (fun i => (i.zero, i.size, i.bytes)) = some (some (.int .i32 0), 1, 4) := by kernel_rfl
theorem inf21.size : (Try.prog.info? 21).map (·.size) = some 1 := by kernel_rfl
theorem inf21.zero : (Try.prog.info? 21).map (·.zero) = some (some (.int .i32 0)) := by kernel_rfl
theorem inf22 : (Try.prog.info? 22).map (fun i => (i.zero, i.size, i.bytes)) = some (some (.slice none 0 0), 1, 24) := by kernel_rfl
theorem inf22.size : (Try.prog.info? 22).map (·.size) = some 1 := by kernel_rfl
theorem inf22.zero : (Try.prog.info? 22).map (·.zero) = some (some (.slice none 0 0)) := by kernel_rfl
theorem inf23 : (Try.prog.info? 23).map (fun i => (i.zero, i.size, i.bytes)) = some (some (.agg #[.int .i64 0, .slice none 0 0, .int .i64 0, .int .i64 0]), 4, 48) := by kernel_rfl
theorem inf23.size : (Try.prog.info? 23).map (·.size) = some 4 := by kernel_rfl
theorem inf23.zero : (Try.prog.info? 23).map (·.zero) = some (some (.agg #[.int .i64 0, .slice none 0 0, .int .i64 0, .int .i64 0])) := by kernel_rfl
theorem inf24 : (Try.prog.info? 24).map (fun i => (i.zero, i.size, i.bytes)) = some (some (.agg #[.int .i64 0, .slice none 0 0, .int .i64 0, .int .i64 0]), 4, 48) := by kernel_rfl
theorem inf24.size : (Try.prog.info? 24).map (·.size) = some 4 := by kernel_rfl
theorem inf24.zero : (Try.prog.info? 24).map (·.zero) = some (some (.agg #[.int .i64 0, .slice none 0 0, .int .i64 0, .int .i64 0])) := by kernel_rfl
theorem inf25 : (Try.prog.info? 25).map (fun i => (i.zero, i.size, i.bytes)) = some (some (.slice none 0 0), 1, 24) := by kernel_rfl
theorem inf25.size : (Try.prog.info? 25).map (·.size) = some 1 := by kernel_rfl
theorem inf25.zero : (Try.prog.info? 25).map (·.zero) = some (some (.slice none 0 0)) := by kernel_rfl
theorem inf26 : (Try.prog.info? 26).map (fun i => (i.zero, i.size, i.bytes)) = some (some (.nilFunc), 1, 8) := by kernel_rfl
theorem inf26.size : (Try.prog.info? 26).map (·.size) = some 1 := by kernel_rfl
theorem inf26.zero : (Try.prog.info? 26).map (·.zero) = some (some (.nilFunc)) := by kernel_rfl
theorem inf27 : (Try.prog.info? 27).map (fun i => (i.zero, i.size, i.bytes)) = some (some (.nilFunc), 1, 8) := by kernel_rfl
theorem inf27.size : (Try.prog.info? 27).map (·.size) = some 1 := by kernel_rfl
theorem inf27.zero : (Try.prog.info? 27).map (·.zero) = some (some (.nilFunc)) := by kernel_rfl
theorem inf28 : (Try.prog.info? 28).map (fun i => (i.zero, i.size, i.bytes)) = some (some (.nilFunc), 1, 8) := by kernel_rfl
theorem inf28.size : (Try.prog.info? 28).map (·.size) = some 1 := by kernel_rfl
theorem inf28.zero : (Try.prog.info? 28).map (·.zero) = some (some (.nilFunc)) := by kernel_rfl
theorem inf29 : (Try.prog.info? 29).map (fun i => (i.zero, i.size, i.bytes)) = some (some (.nilFunc), 1, 8) := by kernel_rfl
theorem inf29.size : (Try.prog.info? 29).map (·.size) = some 1 := by kernel_rfl
theorem inf29.zero : (Try.prog.info? 29).map (·.zero) = some (some (.nilFunc)) := by kernel_rfl
theorem inf30 : (Try.prog.info? 30).map (fun i => (i.zero, i.size, i.bytes)) = some (some (.nilFunc), 1, 8) := by kernel_rfl
theorem inf30.size : (Try.prog.info? 30).map (·.size) = some 1 := by kernel_rfl
theorem inf30.zero : (Try.prog.info? 30).map (·.zero) = some (some (.nilFunc)) := by kernel_rfl
theorem inf31 : (Try.prog.info? 31).map (fun i => (i.zero, i.size, i.bytes)) = some (some (.nilFunc), 1, 8) := by kernel_rfl
theorem inf31.size : (Try.prog.info? 31).map (·.size) = some 1 := by kernel_rfl
theorem inf31.zero : (Try.prog.info? 31).map (·.zero) = some (some (.nilFunc)) := by kernel_rfl
theorem inf32 : (Try.prog.info? 32).map (fun i => (i.zero, i.size, i.bytes)) = some (some (.pointer none), 1, 8) := by kernel_rfl
theorem inf32.size : (Try.prog.info? 32).map (·.size) = some 1 := by kernel_rfl
theorem inf32.zero : (Try.prog.info? 32).map (·.zero) = some (some (.pointer none)) := by kernel_rfl
theorem inf33 : (Try.prog.info? 33).map (fun i => (i.zero, i.size, i.bytes)) = some (some (.nilFunc), 1, 8) := by kernel_rfl
theorem inf33.size : (Try.prog.info? 33).map (·.size) = some 1 := by kernel_rfl
theorem inf33.zero : (Try.prog.info? 33).map (·.zero) = some (some (.nilFunc)) := by kernel_rfl
theorem inf34 : (Try.prog.info? 34).map (fun i => (i.zero, i.size, i.bytes)) = some (some (.nilFunc), 1, 8) := by kernel_rfl
theorem inf34.size : (Try.prog.info? 34).map (·.size) = some 1 := by kernel_rfl
theorem inf34.zero : (Try.prog.info? 34).map (·.zero) = some (some (.nilFunc)) := by kernel_rfl
theorem inf35 : (Try.prog.info? 35).map (fun i => (i.zero, i.size, i.bytes)) = some (some (.nilFunc), 1, 8) := by kernel_rfl
theorem inf35.size : (Try.prog.info? 35).map (·.size) = some 1 := by kernel_rfl
theorem inf35.zero : (Try.prog.info? 35).map (·.zero) = some (some (.nilFunc)) := by kernel_rfl
theorem inf36 : (Try.prog.info? 36).map (fun i => (i.zero, i.size, i.bytes)) = some (some (.tuple #[.agg #[.int .i64 0, .slice none 0 0, .int .i64 0, .int .i64 0], .bool false]), 1, 0) := by kernel_rfl
theorem inf36.size : (Try.prog.info? 36).map (·.size) = some 1 := by kernel_rfl
theorem inf36.zero : (Try.prog.info? 36).map (·.zero) = some (some (.tuple #[.agg #[.int .i64 0, .slice none 0 0, .int .i64 0, .int .i64 0], .bool false])) := by kernel_rfl
theorem inf37 : (Try.prog.info? 37).map (fun i => (i.zero, i.size, i.bytes)) = some (some (.nilFunc), 1, 8) := by kernel_rfl
theorem inf37.size : (Try.prog.info? 37).map (·.size) = some 1 := by kernel_rfl
theorem inf37.zero : (Try.prog.info? 37).map (·.zero) = some (some (.nilFunc)) := by kernel_rfl
theorem inf38 : (Try.prog.info? 38).map (fun i => (i.zero, i.size, i.bytes)) = some (some (.nilFunc), 1, 8) := by kernel_rfl
theorem inf38.size : (Try.prog.info? 38).map (·.size) = some 1 := by kernel_rfl
theorem inf38.zero : (Try.prog.info? 38).map (·.zero) = some (some (.nilFunc)) := by kernel_rfl
theorem inf39 : (Try.prog.info? 39).map (fun i => (i.zero, i.size, i.bytes)) = some (some (.nilFunc), 1, 8) := by kernel_rfl
theorem inf39.size : (Try.prog.info? 39).map (·.size) = some 1 := by kernel_rfl
theorem inf39.zero : (Try.prog.info? 39).map (·.zero) = some (some (.nilFunc)) := by kernel_rfl
theorem inf40 : (Try.prog.info? 40).map (fun i => (i.zero, i.size, i.bytes)) = some (some (.slice none 0 0), 1, 24) := by kernel_rfl
theorem inf40.size : (Try.prog.info? 40).map (·.size) = some 1 := by kernel_rfl
theorem inf40.zero : (Try.prog.info? 40).map (·.zero) = some (some (.slice none 0 0)) := by kernel_rfl
theorem inf41 : (Try.prog.info? 41).map (fun i => (i.zero, i.size, i.bytes)) = some (some (.nilFunc), 1, 8) := by kernel_rfl
theorem inf41.size : (Try.prog.info? 41).map (·.size) = some 1 := by kernel_rfl
theorem inf41.zero : (Try.prog.info? 41).map (·.zero) = some (some (.nilFunc)) := by kernel_rfl
theorem inf42 : (Try.prog.info? 42).map (fun i => (i.zero, i.size, i.bytes)) = some (some (.nilFunc), 1, 8) := by kernel_rfl
theorem inf42.size : (Try.prog.info? 42).map (·.size) = some 1 := by kernel_rfl
theorem inf42.zero : (Try.prog.info? 42).map (·.zero) = some (some (.nilFunc)) := by kernel_rfl
theorem inf43 : (Try.prog.info? 43).map (fun i => (i.zero, i.size, i.bytes)) = some (some (.nilFunc), 1, 8) := by kernel_rfl
theorem inf43.size : (Try.prog.info? 43).map (·.size) = some 1 := by kernel_rfl
theorem inf43.zero : (Try.prog.info? 43).map (·.zero) = some (some (.nilFunc)) := by kernel_rfl
theorem inf44 : (Try.prog.info? 44).map (fun i => (i.zero, i.size, i.bytes)) = some (some (.nilFunc), 1, 8) := by kernel_rfl
theorem inf44.size : (Try.prog.info? 44).map (·.size) = some 1 := by kernel_rfl
theorem inf44.zero : (Try.prog.info? 44).map (·.zero) = some (some (.nilFunc)) := by kernel_rfl
theorem inf45 : (Try.prog.info? 45).map (fun i => (i.zero, i.size, i.bytes)) = some (some (.nilFunc), 1, 8) := by kernel_rfl
theorem inf45.size : (Try.prog.info? 45).map (·.size) = some 1 := by kernel_rfl
theorem inf45.zero : (Try.prog.info? 45).map (·.zero) = some (some (.nilFunc)) := by kernel_rfl
theorem inf46 : (Try.prog.info? 46).map (fun i => (i.zero, i.size, i.bytes)) = some (some (.nilFunc), 1, 8) := by kernel_rfl
theorem inf46.size : (Try.prog.info? 46).map (·.size) = some 1 := by kernel_rfl
theorem inf46.zero : (Try.prog.info? 46).map (·.zero) = some (some (.nilFunc)) := by kernel_rfl
theorem inf47 : (Try.prog.info? 47).map (fun i => (i.zero, i.size, i.bytes)) = some (some (.nilFunc), 1, 8) := by kernel_rfl
theorem inf47.size : (Try.prog.info? 47).map (·.size) = some 1 := by kernel_rfl
theorem inf47.zero : (Try.prog.info? 47).map (·.zero) = some (some (.nilFunc)) := by kernel_rfl
theorem inf48 : (Try.prog.info? 48).map (fun i => (i.zero, i.size, i.bytes)) = some (some (.nilFunc), 1, 8) := by kernel_rfl
theorem inf48.size : (Try.prog.info? 48).map (·.size) = some 1 := by kernel_rfl
theorem inf48.zero : (Try.prog.info? 48).map (·.zero) = some (some (.nilFunc)) := by kernel_rfl
theorem inf49 : (Try.prog.info? 49).map (fun i => (i.zero, i.size, i.bytes)) = some (some (.agg #[.slice none 0 0]), 1, 24) := by kernel_rfl
theorem inf49.size : (Try.prog.info? 49).map (·.size) = some 1 := by kernel_rfl
theorem inf49.zero : (Try.prog.info? 49).map (·.zero) = some (some (.agg #[.slice none 0 0])) := by kernel_rfl
theorem inf50 : (Try.prog.info? 50).map (fun i => (i.zero, i.size, i.bytes)) = some (some (.agg #[.slice none 0 0]), 1, 24) := by kernel_rfl
theorem inf50.size : (Try.prog.info? 50).map (·.size) = some 1 := by kernel_rfl
theorem inf50.zero : (Try.prog.info? 50).map (·.zero) = some (some (.agg #[.slice none 0 0])) := by kernel_rfl
theorem inf51 : (Try.prog.info? 51).map (fun i => (i.zero, i.size, i.bytes)) = some (some (.nilFunc), 1, 8) := by kernel_rfl
theorem inf51.size : (Try.prog.info? 51).map (·.size) = some 1 := by kernel_rfl
theorem inf51.zero : (Try.prog.info? 51).map (·.zero) = some (some (.nilFunc)) := by kernel_rfl
theorem inf52 : (Try.prog.info? 52).map (fun i => (i.zero, i.size, i.bytes)) = some (some (.nilFunc), 1, 8) := by kernel_rfl
theorem inf52.size : (Try.prog.info? 52).map (·.size) = some 1 := by kernel_rfl
theorem inf52.zero : (Try.prog.info? 52).map (·.zero) = some (some (.nilFunc)) := by kernel_rfl
theorem inf53 : (Try.prog.info? 53).map (fun i => (i.zero, i.size, i.bytes)) = some (some (.nilFunc), 1, 8) := by kernel_rfl
theorem inf53.size : (Try.prog.info? 53).map (·.size) = some 1 := by kernel_rfl
theorem inf53.zero : (Try.prog.info? 53).map (·.zero) = some (some (.nilFunc)) := by kernel_rfl
theorem inf54 : (Try.prog.info? 54).map (fun i => (i.zero, i.size, i.bytes)) = some (some (.nilFunc), 1, 8) := by kernel_rfl
theorem inf54.size : (Try.prog.info? 54).map (·.size) = some 1 := by kernel_rfl
theorem inf54.zero : (Try.prog.info? 54).map (·.zero) = some (some (.nilFunc)) := by kernel_rfl
theorem inf55 : (Try.prog.info? 55).map (fun i => (i.zero, i.size, i.bytes)) = some (some (.nilFunc), 1, 8) := by kernel_rfl
theorem inf55.size : (Try.prog.info? 55).map (·.size) = some 1 := by kernel_rfl
theorem inf55.zero : (Try.prog.info? 55).map (·.zero) = some (some (.nilFunc)) := by kernel_rfl
theorem inf56 : (Try.prog.info? 56).map (fun i => (i.zero, i.size, i.bytes)) = some (some (.int .u64 0), 1, 8) := by kernel_rfl
theorem inf56.size : (Try.prog.info? 56).map (·.size) = some 1 := by kernel_rfl
theorem inf56.zero : (Try.prog.info? 56).map (·.zero) = some (some (.int .u64 0)) := by kernel_rfl
theorem inf57 : (Try.prog.info? 57).map (fun i => (i.zero, i.size, i.bytes)) = some (some (.nilFunc), 1, 8) := by kernel_rfl
theorem inf57.size : (Try.prog.info? 57).map (·.size) = some 1 := by kernel_rfl
theorem inf57.zero : (Try.prog.info? 57).map (·.zero) = some (some (.nilFunc)) := by kernel_rfl
theorem inf58 : (Try.prog.info? 58).map (fun i => (i.zero, i.size, i.bytes)) = some (some (.nilFunc), 1, 8) := by kernel_rfl
theorem inf58.size : (Try.prog.info? 58).map (·.size) = some 1 := by kernel_rfl
theorem inf58.zero : (Try.prog.info? 58).map (·.zero) = some (some (.nilFunc)) := by kernel_rfl
theorem inf59 : (Try.prog.info? 59).map (fun i => (i.zero, i.size, i.bytes)) = some (some (.nilFunc), 1, 8) := by kernel_rfl
theorem inf59.size : (Try.prog.info? 59).map (·.size) = some 1 := by kernel_rfl
theorem inf59.zero : (Try.prog.info? 59).map (·.zero) = some (some (.nilFunc)) := by kernel_rfl
theorem inf60 : (Try.prog.info? 60).map (fun i => (i.zero, i.size, i.bytes)) = some (some (.nilFunc), 1, 8) := by kernel_rfl
theorem inf60.size : (Try.prog.info? 60).map (·.size) = some 1 := by kernel_rfl
theorem inf60.zero : (Try.prog.info? 60).map (·.zero) = some (some (.nilFunc)) := by kernel_rfl
theorem inf61 : (Try.prog.info? 61).map (fun i => (i.zero, i.size, i.bytes)) = some (some (.int .i64 0), 1, 8) := by kernel_rfl
theorem inf61.size : (Try.prog.info? 61).map (·.size) = some 1 := by kernel_rfl
theorem inf61.zero : (Try.prog.info? 61).map (·.zero) = some (some (.int .i64 0)) := by kernel_rfl
theorem inf62 : (Try.prog.info? 62).map (fun i => (i.zero, i.size, i.bytes)) = some (some (.tuple #[.int .i64 0, .int .i64 0]), 1, 0) := by kernel_rfl
theorem inf62.size : (Try.prog.info? 62).map (·.size) = some 1 := by kernel_rfl
theorem inf62.zero : (Try.prog.info? 62).map (·.zero) = some (some (.tuple #[.int .i64 0, .int .i64 0])) := by kernel_rfl
theorem inf63 : (Try.prog.info? 63).map (fun i => (i.zero, i.size, i.bytes)) = some (some (.nilFunc), 1, 8) := by kernel_rfl
theorem inf63.size : (Try.prog.info? 63).map (·.size) = some 1 := by kernel_rfl
theorem inf63.zero : (Try.prog.info? 63).map (·.zero) = some (some (.nilFunc)) := by kernel_rfl
theorem inf64 : (Try.prog.info? 64).map (fun i => (i.zero, i.size, i.bytes)) = some (some (.nilFunc), 1, 8) := by kernel_rfl
theorem inf64.size : (Try.prog.info? 64).map (·.size) = some 1 := by kernel_rfl
theorem inf64.zero : (Try.prog.info? 64).map (·.zero) = some (some (.nilFunc)) := by kernel_rfl
theorem inf65 : (Try.prog.info? 65).map (fun i => (i.zero, i.size, i.bytes)) = some (some (.nilFunc), 1, 8) := by kernel_rfl
theorem inf65.size : (Try.prog.info? 65).map (·.size) = some 1 := by kernel_rfl
theorem inf65.zero : (Try.prog.info? 65).map (·.zero) = some (some (.nilFunc)) := by kernel_rfl
theorem inf66 : (Try.prog.info? 66).map (fun i => (i.zero, i.size, i.bytes)) = some (some (.tuple #[.int .i64 0, .bool false]), 1, 0) := by kernel_rfl
theorem inf66.size : (Try.prog.info? 66).map (·.size) = some 1 := by kernel_rfl
theorem inf66.zero : (Try.prog.info? 66).map (·.zero) = some (some (.tuple #[.int .i64 0, .bool false])) := by kernel_rfl
theorem inf67 : (Try.prog.info? 67).map (fun i => (i.zero, i.size, i.bytes)) = some (some (.nilFunc), 1, 8) := by kernel_rfl
theorem inf67.size : (Try.prog.info? 67).map (·.size) = some 1 := by kernel_rfl
theorem inf67.zero : (Try.prog.info? 67).map (·.zero) = some (some (.nilFunc)) := by kernel_rfl
theorem inf68 : (Try.prog.info? 68).map (fun i => (i.zero, i.size, i.bytes)) = some (some (.nilFunc), 1, 8) := by kernel_rfl
theorem inf68.size : (Try.prog.info? 68).map (·.size) = some 1 := by kernel_rfl
theorem inf68.zero : (Try.prog.info? 68).map (·.zero) = some (some (.nilFunc)) := by kernel_rfl
theorem inf69 : (Try.prog.info? 69).map (fun i => (i.zero, i.size, i.bytes)) = some (some (.int .u32 0), 1, 4) := by kernel_rfl
theorem inf69.size : (Try.prog.info? 69).map (·.size) = some 1 := by kernel_rfl
theorem inf69.zero : (Try.prog.info? 69).map (·.zero) = some (some (.int .u32 0)) := by kernel_rfl
theorem inf70 : (Try.prog.info? 70).map (fun i => (i.zero, i.size, i.bytes)) = some (some (.nilFunc), 1, 8) := by kernel_rfl
theorem inf70.size : (Try.prog.info? 70).map (·.size) = some 1 := by kernel_rfl
theorem inf70.zero : (Try.prog.info? 70).map (·.zero) = some (some (.nilFunc)) := by kernel_rfl
theorem inf71 : (Try.prog.info? 71).map (fun i => (i.zero, i.size, i.bytes)) = some (some (.int .u64 0), 1, 8) := by kernel_rfl
theorem inf71.size : (Try.prog.info? 71).map (·.size) = some 1 := by kernel_rfl
theorem inf71.zero : (Try.prog.info? 71).map (·.zero) = some (some (.int .u64 0)) := by kernel_rfl
theorem inf72 : (Try.prog.info? 72).map (fun i => (i.zero, i.size, i.bytes)) = some (some (.int .u64 0), 1, 8) := by kernel_rfl
theorem inf72.size : (Try.prog.info? 72).map (·.size) = some 1 := by kernel_rfl
theorem inf72.zero : (Try.prog.info? 72).map (·.zero) = some (some (.int .u64 0)) := by kernel_rfl
theorem inf73 : (Try.prog.info? 73).map (fun i => (i.zero, i.size, i.bytes)) = some (some (.nilFunc), 1, 8) := by kernel_rfl
theorem inf73.size : (Try.prog.info? 73).map (·.size) = some 1 := by kernel_rfl
theorem inf73.zero : (Try.prog.info? 73).map (·.zero) = some (some (.nilFunc)) := by kernel_rfl
theorem inf74 : (Try.prog.info? 74).map (fun i => (i.zero, i.size, i.bytes)) = some (some (.nilFunc), 1, 8) := by kernel_rfl
theorem inf74.size : (Try.prog.info? 74).map (·.size) = some 1 := by kernel_rfl
theorem inf74.zero : (Try.prog.info? 74).map (·.zero) = some (some (.nilFunc)) := by kernel_rfl
theorem inf75 : (Try.prog.info? 75).map (fun i => (i.zero, i.size, i.bytes)) = some (some (.nilFunc), 1, 8) := by kernel_rfl
theorem inf75.size : (Try.prog.info? 75).map (·.size) = some 1 := by kernel_rfl
theorem inf75.zero : (Try.prog.info? 75).map (·.zero) = some (some (.nilFunc)) := by kernel_rfl
theorem inf76 : (Try.prog.info? 76).map (fun i => (i.zero, i.size, i.bytes)) = some (some (.pointer none), 1, 8) := by kernel_rfl
theorem inf76.size : (Try.prog.info? 76).map (·.size) = some 1 := by kernel_rfl
theorem inf76.zero : (Try.prog.info? 76).map (·.zero) = some (some (.pointer none)) := by kernel_rfl
theorem inf77 : (Try.prog.info? 77).map (fun i => (i.zero, i.size, i.bytes)) = some (some (.nilFunc), 1, 8) := by kernel_rfl
theorem inf77.size : (Try.prog.info? 77).map (·.size) = some 1 := by kernel_rfl
theorem inf77.zero : (Try.prog.info? 77).map (·.zero) = some (some (.nilFunc)) := by kernel_rfl
theorem inf78 : (Try.prog.info? 78).map (fun i => (i.zero, i.size, i.bytes)) = some (some (.pointer none), 1, 8) := by kernel_rfl
theorem inf78.size : (Try.prog.info? 78).map (·.size) = some 1 := by kernel_rfl
theorem inf78.zero : (Try.prog.info? 78).map (·.zero) = some (some (.pointer none)) := by kernel_rfl
theorem inf79 : (Try.prog.info? 79).map (fun i => (i.zero, i.size, i.bytes)) = some (some (.tuple #[.int .i64 0, .int .i64 0]), 1, 0) := by kernel_rfl
theorem inf79.size : (Try.prog.info? 79).map (·.size) = some 1 := by kernel_rfl
theorem inf79.zero : (Try.prog.info? 79).map (·.zero) = some (some (.tuple #[.int .i64 0, .int .i64 0])) := by kernel_rfl
theorem inf80 : (Try.prog.info? 80).map (fun i => (i.zero, i.size, i.bytes)) = some (some (.nilFunc), 1, 8) := by kernel_rfl
theorem inf80.size : (Try.prog.info? 80).map (·.size) = some 1 := by kernel_rfl
theorem inf80.zero : (Try.prog.info? 80).map (·.zero) = some (some (.nilFunc)) := by kernel_rfl
theorem inf81 : (Try.prog.info? 81).map (fun i => (i.zero, i.size, i.bytes)) = some (some (.nilFunc), 1, 8) := by kernel_rfl
theorem inf81.size : (Try.prog.info? 81).map (·.size) = some 1 := by kernel_rfl
theorem inf81.zero : (Try.prog.info? 81).map (·.zero) = some (some (.nilFunc)) := by kernel_rfl
theorem inf82 : (Try.prog.info? 82).map (fun i => (i.zero, i.size, i.bytes)) = some (some (.agg #[.pointer none, .pointer none, .pointer none, .string ByteArray.empty]), 4, 40) := by kernel_rfl
theorem inf82.size : (Try.prog.info? 82).map (·.size) = some 4 := by kernel_rfl
theorem inf82.zero : (Try.prog.info? 82).map (·.zero) = some (some (.agg #[.pointer none, .pointer none, .pointer none, .string ByteArray.empty])) := by kernel_rfl
theorem inf83 : (Try.prog.info? 83).map (fun i => (i.zero, i.size, i.bytes)) = some (some (.agg #[.pointer none, .pointer none, .pointer none, .string ByteArray.empty]), 4, 40) := by kernel_rfl
theorem inf83.size : (Try.prog.info? 83).map (·.size) = some 4 := by kernel_rfl
theorem inf83.zero : (Try.prog.info? 83).map (·.zero) = some (some (.agg #[.pointer none, .pointer none, .pointer none, .string ByteArray.empty])) := by kernel_rfl
theorem inf84 : (Try.prog.info? 84).map (fun i => (i.zero, i.size, i.bytes)) = some (some (.agg #[]), 0, 0) := by kernel_rfl
theorem inf84.size : (Try.prog.info? 84).map (·.size) = some 0 := by kernel_rfl
theorem inf84.zero : (Try.prog.info? 84).map (·.zero) = some (some (.agg #[])) := by kernel_rfl
theorem inf85 : (Try.prog.info? 85).map (fun i => (i.zero, i.size, i.bytes)) = some (some (.agg #[]), 0, 0) := by kernel_rfl
theorem inf85.size : (Try.prog.info? 85).map (·.size) = some 0 := by kernel_rfl
theorem inf85.zero : (Try.prog.info? 85).map (·.zero) = some (some (.agg #[])) := by kernel_rfl
theorem inf86 : (Try.prog.info? 86).map (fun i => (i.zero, i.size, i.bytes)) = some (some (.agg #[]), 0, 0) := by kernel_rfl
theorem inf86.size : (Try.prog.info? 86).map (·.size) = some 0 := by kernel_rfl
theorem inf86.zero : (Try.prog.info? 86).map (·.zero) = some (some (.agg #[])) := by kernel_rfl
theorem inf87 : (Try.prog.info? 87).map (fun i => (i.zero, i.size, i.bytes)) = some (some (.int .u8 0), 1, 1) := by kernel_rfl
theorem inf87.size : (Try.prog.info? 87).map (·.size) = some 1 := by kernel_rfl
theorem inf87.zero : (Try.prog.info? 87).map (·.zero) = some (some (.int .u8 0)) := by kernel_rfl
theorem inf88 : (Try.prog.info? 88).map (fun i => (i.zero, i.size, i.bytes)) = some (some (.int .u8 0), 1, 1) := by kernel_rfl
theorem inf88.size : (Try.prog.info? 88).map (·.size) = some 1 := by kernel_rfl
theorem inf88.zero : (Try.prog.info? 88).map (·.zero) = some (some (.int .u8 0)) := by kernel_rfl
theorem inf89 : (Try.prog.info? 89).map (fun i => (i.zero, i.size, i.bytes)) = some (some (.nilFunc), 1, 8) := by kernel_rfl
theorem inf89.size : (Try.prog.info? 89).map (·.size) = some 1 := by kernel_rfl
theorem inf89.zero : (Try.prog.info? 89).map (·.zero) = some (some (.nilFunc)) := by kernel_rfl
theorem inf90 : (Try.prog.info? 90).map (fun i => (i.zero, i.size, i.bytes)) = some (some (.pointer none), 1, 8) := by kernel_rfl
theorem inf90.size : (Try.prog.info? 90).map (·.size) = some 1 := by kernel_rfl
theorem inf90.zero : (Try.prog.info? 90).map (·.zero) = some (some (.pointer none)) := by kernel_rfl
theorem inf91 : (Try.prog.info? 91).map (fun i => (i.zero, i.size, i.bytes)) = some (some (.int .i32 0), 1, 4) := by kernel_rfl
theorem inf91.size : (Try.prog.info? 91).map (·.size) = some 1 := by kernel_rfl
theorem inf91.zero : (Try.prog.info? 91).map (·.zero) = some (some (.int .i32 0)) := by kernel_rfl
theorem inf92 : (Try.prog.info? 92).map (fun i => (i.zero, i.size, i.bytes)) = some (some (.int .i32 0), 1, 4) := by kernel_rfl
theorem inf92.size : (Try.prog.info? 92).map (·.size) = some 1 := by kernel_rfl
theorem inf92.zero : (Try.prog.info? 92).map (·.zero) = some (some (.int .i32 0)) := by kernel_rfl
theorem inf93 : (Try.prog.info? 93).map (fun i => (i.zero, i.size, i.bytes)) = some (some (.agg #[.int .u64 0, .int .u64 0, .int .u32 0, .int .u8 0, .int .u8 0, .int .u8 0, .int .u8 0, .nilFunc, .pointer none, .int .i32 0, .int .i32 0]), 11, 48) := by kernel_rfl
theorem inf93.size : (Try.prog.info? 93).map (·.size) = some 11 := by kernel_rfl
theorem inf93.zero : (Try.prog.info? 93).map (·.zero) = some (some (.agg #[.int .u64 0, .int .u64 0, .int .u32 0, .int .u8 0, .int .u8 0, .int .u8 0, .int .u8 0, .nilFunc, .pointer none, .int .i32 0, .int .i32 0])) := by kernel_rfl
theorem inf94 : (Try.prog.info? 94).map (fun i => (i.zero, i.size, i.bytes)) = some (some (.agg #[.int .u64 0, .int .u64 0, .int .u32 0, .int .u8 0, .int .u8 0, .int .u8 0, .int .u8 0, .nilFunc, .pointer none, .int .i32 0, .int .i32 0]), 11, 48) := by kernel_rfl
theorem inf94.size : (Try.prog.info? 94).map (·.size) = some 11 := by kernel_rfl
theorem inf94.zero : (Try.prog.info? 94).map (·.zero) = some (some (.agg #[.int .u64 0, .int .u64 0, .int .u32 0, .int .u8 0, .int .u8 0, .int .u8 0, .int .u8 0, .nilFunc, .pointer none, .int .i32 0, .int .i32 0])) := by kernel_rfl
theorem inf95 : (Try.prog.info? 95).map (fun i => (i.zero, i.size, i.bytes)) = some (some (.pointer none), 1, 8) := by kernel_rfl
theorem inf95.size : (Try.prog.info? 95).map (·.size) = some 1 := by kernel_rfl
theorem inf95.zero : (Try.prog.info? 95).map (·.zero) = some (some (.pointer none)) := by kernel_rfl
end Go.Proofs.Ytinfigghaonceaa.Am
