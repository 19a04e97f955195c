/- Sizes and zero values of the types that the code reads, writes and makes, each by the kernel. Conditions: none. -/
import Derived.Test.YtaejmginhkbbhaaGreatDoorI
import Derived.Test.YtaejmginhkbbhaaGreatDoorProg
namespace Go.Proofs.YtaejmginhkbbhaaGreatDoor
open Go
set_option maxRecDepth 100000
instance : Sz Tryz.prog 3 false 1 := ⟨by kernel_rfl, by kernel_rfl⟩
instance : Sz Tryz.prog 4 false 1 := ⟨by kernel_rfl, by kernel_rfl⟩
instance : Sz Tryz.prog 5 false 1 := ⟨by kernel_rfl, by kernel_rfl⟩
instance : Sz Tryz.prog 9 false 1 := ⟨by kernel_rfl, by kernel_rfl⟩
instance : Sz Tryz.prog 22 false 1 := ⟨by kernel_rfl, by kernel_rfl⟩
instance : Sz Tryz.prog 24 true 3 := ⟨by kernel_rfl, by kernel_rfl⟩
instance : Sz Tryz.prog 25 false 1 := ⟨by kernel_rfl, by kernel_rfl⟩
instance : Sz Tryz.prog 28 false 1 := ⟨by kernel_rfl, by kernel_rfl⟩
instance : Sz Tryz.prog 29 false 1 := ⟨by kernel_rfl, by kernel_rfl⟩
instance : Sz Tryz.prog 34 true 3 := ⟨by kernel_rfl, by kernel_rfl⟩
instance : Sz Tryz.prog 37 true 4 := ⟨by kernel_rfl, by kernel_rfl⟩
instance : Sz Tryz.prog 48 true 3 := ⟨by kernel_rfl, by kernel_rfl⟩
instance : Sz Tryz.prog 52 false 1 := ⟨by kernel_rfl, by kernel_rfl⟩
instance : Sz Tryz.prog 64 false 1 := ⟨by kernel_rfl, by kernel_rfl⟩
instance : Sz Tryz.prog 69 true 4 := ⟨by kernel_rfl, by kernel_rfl⟩
instance : Sz Tryz.prog 70 true 8 := ⟨by kernel_rfl, by kernel_rfl⟩
instance : Sz Tryz.prog 73 true 6 := ⟨by kernel_rfl, by kernel_rfl⟩
instance : Sz Tryz.prog 75 true 9 := ⟨by kernel_rfl, by kernel_rfl⟩
instance : Sz Tryz.prog 77 true 10 := ⟨by kernel_rfl, by kernel_rfl⟩
instance : Sz Tryz.prog 78 false 1 := ⟨by kernel_rfl, by kernel_rfl⟩
instance : Sz Tryz.prog 94 true 7 := ⟨by kernel_rfl, by kernel_rfl⟩
instance : Sz Tryz.prog 96 true 16 := ⟨by kernel_rfl, by kernel_rfl⟩
instance : Sz Tryz.prog 107 false 1 := ⟨by kernel_rfl, by kernel_rfl⟩
instance : Sz Tryz.prog 112 false 1 := ⟨by kernel_rfl, by kernel_rfl⟩
instance : Sz Tryz.prog 114 true 5 := ⟨by kernel_rfl, by kernel_rfl⟩
instance : Sz Tryz.prog 120 true 5 := ⟨by kernel_rfl, by kernel_rfl⟩
instance : Sz Tryz.prog 143 false 1 := ⟨by kernel_rfl, by kernel_rfl⟩
instance : Sz Tryz.prog 149 false 1 := ⟨by kernel_rfl, by kernel_rfl⟩
instance : Sz Tryz.prog 151 true 3 := ⟨by kernel_rfl, by kernel_rfl⟩
instance : Sz Tryz.prog 152 false 1 := ⟨by kernel_rfl, by kernel_rfl⟩
instance : Sz Tryz.prog 154 true 8 := ⟨by kernel_rfl, by kernel_rfl⟩
instance : Sz Tryz.prog 158 false 1 := ⟨by kernel_rfl, by kernel_rfl⟩
instance : Sz Tryz.prog 159 false 1 := ⟨by kernel_rfl, by kernel_rfl⟩
instance : Sz Tryz.prog 160 false 1 := ⟨by kernel_rfl, by kernel_rfl⟩
instance : Sz Tryz.prog 162 true 10 := ⟨by kernel_rfl, by kernel_rfl⟩
instance : Sz Tryz.prog 167 true 1 := ⟨by kernel_rfl, by kernel_rfl⟩
instance : Sz Tryz.prog 169 true 5 := ⟨by kernel_rfl, by kernel_rfl⟩
instance : Sz Tryz.prog 171 true 11 := ⟨by kernel_rfl, by kernel_rfl⟩
instance : Sz Tryz.prog 175 true 4 := ⟨by kernel_rfl, by kernel_rfl⟩
instance : Sz Tryz.prog 182 false 1 := ⟨by kernel_rfl, by kernel_rfl⟩
instance : Sz Tryz.prog 185 true 2 := ⟨by kernel_rfl, by kernel_rfl⟩
instance : Sz Tryz.prog 187 true 9 := ⟨by kernel_rfl, by kernel_rfl⟩
instance : Sz Tryz.prog 200 true 4 := ⟨by kernel_rfl, by kernel_rfl⟩
instance : Sz Tryz.prog 209 false 1 := ⟨by kernel_rfl, by kernel_rfl⟩
instance : Sz Tryz.prog 210 false 1 := ⟨by kernel_rfl, by kernel_rfl⟩
instance : Sz Tryz.prog 211 true 3 := ⟨by kernel_rfl, by kernel_rfl⟩
instance : Sz Tryz.prog 223 false 1 := ⟨by kernel_rfl, by kernel_rfl⟩
instance : Sz Tryz.prog 224 true 2 := ⟨by kernel_rfl, by kernel_rfl⟩
instance : Sz Tryz.prog 232 true 3 := ⟨by kernel_rfl, by kernel_rfl⟩
instance : Sz Tryz.prog 233 false 1 := ⟨by kernel_rfl, by kernel_rfl⟩
instance : Sz Tryz.prog 234 false 1 := ⟨by kernel_rfl, by kernel_rfl⟩
instance : Sz Tryz.prog 236 true 3 := ⟨by kernel_rfl, by kernel_rfl⟩
instance : Sz Tryz.prog 237 true 12 := ⟨by kernel_rfl, by kernel_rfl⟩
instance : Sz Tryz.prog 240 false 1 := ⟨by kernel_rfl, by kernel_rfl⟩
instance : Sz Tryz.prog 254 true 2 := ⟨by kernel_rfl, by kernel_rfl⟩
instance : Sz Tryz.prog 267 false 1 := ⟨by kernel_rfl, by kernel_rfl⟩
instance : Sz Tryz.prog 270 false 1 := ⟨by kernel_rfl, by kernel_rfl⟩
instance : Sz Tryz.prog 273 true 3 := ⟨by kernel_rfl, by kernel_rfl⟩
instance : Sz Tryz.prog 290 true 6 := ⟨by kernel_rfl, by kernel_rfl⟩
instance : Sz Tryz.prog 295 false 1 := ⟨by kernel_rfl, by kernel_rfl⟩
instance : Sz Tryz.prog 297 true 4 := ⟨by kernel_rfl, by kernel_rfl⟩
instance : Sz Tryz.prog 311 false 1 := ⟨by kernel_rfl, by kernel_rfl⟩
instance : Sz Tryz.prog 313 true 3 := ⟨by kernel_rfl, by kernel_rfl⟩
instance : Sz Tryz.prog 314 true 9 := ⟨by kernel_rfl, by kernel_rfl⟩
instance : Sz Tryz.prog 320 false 1 := ⟨by kernel_rfl, by kernel_rfl⟩
instance : Sz Tryz.prog 325 true 5 := ⟨by kernel_rfl, by kernel_rfl⟩
instance : Sz Tryz.prog 333 false 1 := ⟨by kernel_rfl, by kernel_rfl⟩
instance : Sz Tryz.prog 346 true 2 := ⟨by kernel_rfl, by kernel_rfl⟩
instance : Sz Tryz.prog 351 false 1 := ⟨by kernel_rfl, by kernel_rfl⟩
instance : Sz Tryz.prog 353 false 1 := ⟨by kernel_rfl, by kernel_rfl⟩
instance : Sz Tryz.prog 355 true 2 := ⟨by kernel_rfl, by kernel_rfl⟩
instance : Sz Tryz.prog 363 true 1 := ⟨by kernel_rfl, by kernel_rfl⟩
instance : Sz Tryz.prog 365 true 2 := ⟨by kernel_rfl, by kernel_rfl⟩
instance : Sz Tryz.prog 371 true 1 := ⟨by kernel_rfl, by kernel_rfl⟩
instance : Sz Tryz.prog 373 true 2 := ⟨by kernel_rfl, by kernel_rfl⟩
instance : Sz Tryz.prog 376 true 2 := ⟨by kernel_rfl, by kernel_rfl⟩
instance : Sz Tryz.prog 396 true 24 := ⟨by kernel_rfl, by kernel_rfl⟩
instance : Sz Tryz.prog 403 false 1 := ⟨by kernel_rfl, by kernel_rfl⟩
instance : Sz Tryz.prog 424 true 20 := ⟨by kernel_rfl, by kernel_rfl⟩
instance : Sz Tryz.prog 426 true 65 := ⟨by kernel_rfl, by kernel_rfl⟩
instance : Sz Tryz.prog 432 true 5 := ⟨by kernel_rfl, by kernel_rfl⟩
instance : Sz Tryz.prog 433 true 45 := ⟨by kernel_rfl, by kernel_rfl⟩
instance : Sz Tryz.prog 438 true 4 := ⟨by kernel_rfl, by kernel_rfl⟩
instance : Sz Tryz.prog 443 true 32 := ⟨by kernel_rfl, by kernel_rfl⟩
instance : Sz Tryz.prog 444 true 64 := ⟨by kernel_rfl, by kernel_rfl⟩
instance : Sz Tryz.prog 447 true 2 := ⟨by kernel_rfl, by kernel_rfl⟩
instance : Sz Tryz.prog 448 true 32 := ⟨by kernel_rfl, by kernel_rfl⟩
instance : Zr Tryz.prog 3 (.int .i64 0) := ⟨by kernel_rfl⟩
instance : Zr Tryz.prog 4 (.bool false) := ⟨by kernel_rfl⟩
instance : Zr Tryz.prog 5 (.int .u8 0) := ⟨by kernel_rfl⟩
instance : Zr Tryz.prog 9 (.string ⟨#[]⟩) := ⟨by kernel_rfl⟩
instance : Zr Tryz.prog 22 (.int .u64 0) := ⟨by kernel_rfl⟩
instance : Zr Tryz.prog 25 (.slice none 0 0) := ⟨by kernel_rfl⟩
instance : Zr Tryz.prog 29 (.int .i64 0) := ⟨by kernel_rfl⟩
instance : Zr Tryz.prog 34 (.agg ⟨.string ⟨#[]⟩ :: .string ⟨#[]⟩ :: .string ⟨#[]⟩ :: []⟩) := ⟨by kernel_rfl⟩
instance : Zr Tryz.prog 37 (.agg ⟨.int .i64 0 :: .string ⟨#[]⟩ :: .string ⟨#[]⟩ :: .string ⟨#[]⟩ :: []⟩) := ⟨by kernel_rfl⟩
instance : Zr Tryz.prog 48 (.agg ⟨.bool false :: .int .u64 0 :: .int .u64 0 :: []⟩) := ⟨by kernel_rfl⟩
instance : Zr Tryz.prog 52 (.slice none 0 0) := ⟨by kernel_rfl⟩
instance : Zr Tryz.prog 69 (.agg ⟨.int .i64 0 :: .string ⟨#[]⟩ :: .string ⟨#[]⟩ :: .string ⟨#[]⟩ :: []⟩) := ⟨by kernel_rfl⟩
instance : Zr Tryz.prog 75 (.agg ⟨.bool false :: .bool false :: .int .u64 0 :: .int .u64 0 :: .int .u64 0 :: .int .u64 0 :: .int .u64 0 :: .int .u64 0 :: .int .u64 0 :: []⟩) := ⟨by kernel_rfl⟩
instance : Zr Tryz.prog 78 (.int .i64 0) := ⟨by kernel_rfl⟩
instance : Zr Tryz.prog 94 (.agg ⟨.int .i64 0 :: .int .i64 0 :: .int .u64 0 :: .int .u64 0 :: .int .u64 0 :: .slice none 0 0 :: .string ⟨#[]⟩ :: []⟩) := ⟨by kernel_rfl⟩
instance : Zr Tryz.prog 96 (.agg ⟨.int .i64 0 :: .int .i64 0 :: .int .u64 0 :: .int .u64 0 :: .int .u64 0 :: .slice none 0 0 :: .string ⟨#[]⟩ :: .bool false :: .bool false :: .int .u64 0 :: .int .u64 0 :: .int .u64 0 :: .int .u64 0 :: .int .u64 0 :: .int .u64 0 :: .int .u64 0 :: []⟩) := ⟨by kernel_rfl⟩
instance : Zr Tryz.prog 107 (.slice none 0 0) := ⟨by kernel_rfl⟩
instance : Zr Tryz.prog 114 (.agg ⟨.int .i64 0 :: .string ⟨#[]⟩ :: .string ⟨#[]⟩ :: .string ⟨#[]⟩ :: .int .u64 0 :: []⟩) := ⟨by kernel_rfl⟩
instance : Zr Tryz.prog 120 (.agg ⟨.int .u64 0 :: .int .u64 0 :: .string ⟨#[]⟩ :: .string ⟨#[]⟩ :: .string ⟨#[]⟩ :: []⟩) := ⟨by kernel_rfl⟩
instance : Zr Tryz.prog 143 (.slice none 0 0) := ⟨by kernel_rfl⟩
instance : Zr Tryz.prog 151 (.agg ⟨.int .i64 0 :: .string ⟨#[]⟩ :: .string ⟨#[]⟩ :: []⟩) := ⟨by kernel_rfl⟩
instance : Zr Tryz.prog 162 (.agg ⟨.pointer none :: .int .i64 0 :: .int .i64 0 :: .int .u64 0 :: .int .u64 0 :: .map none :: .map none :: .int .i64 0 :: .int .i64 0 :: .string ⟨#[]⟩ :: []⟩) := ⟨by kernel_rfl⟩
instance : Zr Tryz.prog 167 (.agg ⟨.slice none 0 0 :: []⟩) := ⟨by kernel_rfl⟩
instance : Zr Tryz.prog 169 (.agg ⟨.slice none 0 0 :: .int .i64 0 :: .string ⟨#[]⟩ :: .bool false :: .bool false :: []⟩) := ⟨by kernel_rfl⟩
instance : Zr Tryz.prog 171 (.agg ⟨.slice none 0 0 :: .int .i64 0 :: .string ⟨#[]⟩ :: .bool false :: .bool false :: .int .i64 0 :: .string ⟨#[]⟩ :: .string ⟨#[]⟩ :: .string ⟨#[]⟩ :: .bool false :: .bool false :: []⟩) := ⟨by kernel_rfl⟩
instance : Zr Tryz.prog 175 (.agg ⟨.slice none 0 0 :: .bool false :: .bool false :: .string ⟨#[]⟩ :: []⟩) := ⟨by kernel_rfl⟩
instance : Zr Tryz.prog 185 (.agg ⟨.int .i64 0 :: .int .i64 0 :: []⟩) := ⟨by kernel_rfl⟩
instance : Zr Tryz.prog 187 (.agg ⟨.pointer none :: .int .i64 0 :: .int .i64 0 :: .string ⟨#[]⟩ :: .string ⟨#[]⟩ :: .slice none 0 0 :: .bool false :: .bool false :: .slice none 0 0 :: []⟩) := ⟨by kernel_rfl⟩
instance : Zr Tryz.prog 200 (.agg ⟨.string ⟨#[]⟩ :: .string ⟨#[]⟩ :: .string ⟨#[]⟩ :: .int .i64 0 :: []⟩) := ⟨by kernel_rfl⟩
instance : Zr Tryz.prog 210 (.nilFunc) := ⟨by kernel_rfl⟩
instance : Zr Tryz.prog 211 (.agg ⟨.nilFunc :: .nilFunc :: .nilFunc :: []⟩) := ⟨by kernel_rfl⟩
instance : Zr Tryz.prog 224 (.agg ⟨.string ⟨#[]⟩ :: .pointer none :: []⟩) := ⟨by kernel_rfl⟩
instance : Zr Tryz.prog 236 (.agg ⟨.int .i64 0 :: .nilFunc :: .nilFunc :: []⟩) := ⟨by kernel_rfl⟩
instance : Zr Tryz.prog 237 (.agg ⟨.int .i64 0 :: .nilFunc :: .nilFunc :: .int .i64 0 :: .nilFunc :: .nilFunc :: .int .i64 0 :: .nilFunc :: .nilFunc :: .int .i64 0 :: .nilFunc :: .nilFunc :: []⟩) := ⟨by kernel_rfl⟩
instance : Zr Tryz.prog 254 (.agg ⟨.string ⟨#[]⟩ :: .bool false :: []⟩) := ⟨by kernel_rfl⟩
instance : Zr Tryz.prog 273 (.agg ⟨.int .i64 0 :: .string ⟨#[]⟩ :: .string ⟨#[]⟩ :: []⟩) := ⟨by kernel_rfl⟩
instance : Zr Tryz.prog 290 (.agg ⟨.string ⟨#[]⟩ :: .string ⟨#[]⟩ :: .string ⟨#[]⟩ :: .string ⟨#[]⟩ :: .string ⟨#[]⟩ :: .string ⟨#[]⟩ :: []⟩) := ⟨by kernel_rfl⟩
instance : Zr Tryz.prog 295 (.slice none 0 0) := ⟨by kernel_rfl⟩
instance : Zr Tryz.prog 297 (.agg ⟨.int .u64 0 :: .int .u64 0 :: .slice none 0 0 :: .int .i64 0 :: []⟩) := ⟨by kernel_rfl⟩
instance : Zr Tryz.prog 313 (.agg ⟨.string ⟨#[]⟩ :: .nilFunc :: .nilFunc :: []⟩) := ⟨by kernel_rfl⟩
instance : Zr Tryz.prog 314 (.agg ⟨.string ⟨#[]⟩ :: .nilFunc :: .nilFunc :: .string ⟨#[]⟩ :: .nilFunc :: .nilFunc :: .string ⟨#[]⟩ :: .nilFunc :: .nilFunc :: []⟩) := ⟨by kernel_rfl⟩
instance : Zr Tryz.prog 325 (.agg ⟨.pointer none :: .int .i64 0 :: .slice none 0 0 :: .bool false :: .bool false :: []⟩) := ⟨by kernel_rfl⟩
instance : Zr Tryz.prog 346 (.agg ⟨.int .i64 0 :: .int .i64 0 :: []⟩) := ⟨by kernel_rfl⟩
instance : Zr Tryz.prog 355 (.agg ⟨.pointer none :: .slice none 0 0 :: []⟩) := ⟨by kernel_rfl⟩
instance : Zr Tryz.prog 373 (.agg ⟨.slice none 0 0 :: .bool false :: []⟩) := ⟨by kernel_rfl⟩
instance : Zr Tryz.prog 376 (.agg ⟨.int .u8 0 :: .int .u8 0 :: []⟩) := ⟨by kernel_rfl⟩
instance : Zr Tryz.prog 396 (.agg ⟨.int .u8 0 :: .int .u8 0 :: .int .u8 0 :: .int .u8 0 :: .int .u8 0 :: .int .u8 0 :: .int .u8 0 :: .int .u8 0 :: .int .u8 0 :: .int .u8 0 :: .int .u8 0 :: .int .u8 0 :: .int .u8 0 :: .int .u8 0 :: .int .u8 0 :: .int .u8 0 :: .int .u8 0 :: .int .u8 0 :: .int .u8 0 :: .int .u8 0 :: .int .u8 0 :: .int .u8 0 :: .int .u8 0 :: .int .u8 0 :: []⟩) := ⟨by kernel_rfl⟩
instance : Zr Tryz.prog 403 (.nilFunc) := ⟨by kernel_rfl⟩
instance : Zr Tryz.prog 426 (.agg ⟨.int .u8 0 :: .int .u8 0 :: .int .u8 0 :: .int .u8 0 :: .int .u8 0 :: .int .u8 0 :: .int .u8 0 :: .int .u8 0 :: .int .u8 0 :: .int .u8 0 :: .int .u8 0 :: .int .u8 0 :: .int .u8 0 :: .int .u8 0 :: .int .u8 0 :: .int .u8 0 :: .int .u8 0 :: .int .u8 0 :: .int .u8 0 :: .int .u8 0 :: .int .u8 0 :: .int .u8 0 :: .int .u8 0 :: .int .u8 0 :: .int .u8 0 :: .int .u8 0 :: .int .u8 0 :: .int .u8 0 :: .int .u8 0 :: .int .u8 0 :: .int .u8 0 :: .int .u8 0 :: .int .u8 0 :: .int .u8 0 :: .int .u8 0 :: .int .u8 0 :: .int .u8 0 :: .int .u8 0 :: .int .u8 0 :: .int .u8 0 :: .int .u8 0 :: .int .u8 0 :: .int .u8 0 :: .int .u8 0 :: .int .u8 0 :: .int .u8 0 :: .int .u8 0 :: .int .u8 0 :: .int .u8 0 :: .int .u8 0 :: .int .u8 0 :: .int .u8 0 :: .int .u8 0 :: .int .u8 0 :: .int .u8 0 :: .int .u8 0 :: .int .u8 0 :: .int .u8 0 :: .int .u8 0 :: .int .u8 0 :: .int .u8 0 :: .int .u8 0 :: .int .u8 0 :: .int .u8 0 :: .int .u8 0 :: []⟩) := ⟨by kernel_rfl⟩
instance : Zr Tryz.prog 432 (.agg ⟨.int .u8 0 :: .int .u8 0 :: .int .i64 0 :: .int .u8 0 :: .int .u8 0 :: []⟩) := ⟨by kernel_rfl⟩
instance : Zr Tryz.prog 433 (.agg ⟨.int .u8 0 :: .int .u8 0 :: .int .i64 0 :: .int .u8 0 :: .int .u8 0 :: .int .u8 0 :: .int .u8 0 :: .int .i64 0 :: .int .u8 0 :: .int .u8 0 :: .int .u8 0 :: .int .u8 0 :: .int .i64 0 :: .int .u8 0 :: .int .u8 0 :: .int .u8 0 :: .int .u8 0 :: .int .i64 0 :: .int .u8 0 :: .int .u8 0 :: .int .u8 0 :: .int .u8 0 :: .int .i64 0 :: .int .u8 0 :: .int .u8 0 :: .int .u8 0 :: .int .u8 0 :: .int .i64 0 :: .int .u8 0 :: .int .u8 0 :: .int .u8 0 :: .int .u8 0 :: .int .i64 0 :: .int .u8 0 :: .int .u8 0 :: .int .u8 0 :: .int .u8 0 :: .int .i64 0 :: .int .u8 0 :: .int .u8 0 :: .int .u8 0 :: .int .u8 0 :: .int .i64 0 :: .int .u8 0 :: .int .u8 0 :: []⟩) := ⟨by kernel_rfl⟩
instance : Zr Tryz.prog 438 (.agg ⟨.int .u8 0 :: .int .u8 0 :: .int .u8 0 :: .int .u8 0 :: []⟩) := ⟨by kernel_rfl⟩
instance : Zr Tryz.prog 447 (.agg ⟨.int .u8 0 :: .int .u8 0 :: []⟩) := ⟨by kernel_rfl⟩
instance : Bs Tryz.prog 24 [(0, 1), (1, 1), (2, 1)] := ⟨_, Tryz.underlying24, fun _ => by kernel_rfl⟩
instance : Zr Tryz.prog 24 (.agg ⟨.int .i64 0 :: .int .i64 0 :: .int .u64 0 :: []⟩) := ⟨by kernel_rfl⟩
instance : Bs Tryz.prog 34 [(0, 1), (1, 1), (2, 1)] := ⟨_, Tryz.underlying34, fun _ => by kernel_rfl⟩
instance : Bs Tryz.prog 37 [(0, 1), (1, 3)] := ⟨_, Tryz.underlying37, fun _ => by kernel_rfl⟩
instance : Bs Tryz.prog 48 [(0, 1), (1, 1), (2, 1)] := ⟨_, Tryz.underlying48, fun _ => by kernel_rfl⟩
instance : Bs Tryz.prog 75 [(0, 1), (1, 1), (2, 1), (3, 6)] := ⟨_, Tryz.underlying75, fun _ => by kernel_rfl⟩
instance : Bs Tryz.prog 77 [(0, 1), (1, 9)] := ⟨_, Tryz.underlying77, fun _ => by kernel_rfl⟩
instance : Zr Tryz.prog 77 (.agg ⟨.pointer none :: .bool false :: .bool false :: .int .u64 0 :: .int .u64 0 :: .int .u64 0 :: .int .u64 0 :: .int .u64 0 :: .int .u64 0 :: .int .u64 0 :: []⟩) := ⟨by kernel_rfl⟩
instance : Bs Tryz.prog 94 [(0, 3), (3, 1), (4, 1), (5, 1), (6, 1)] := ⟨_, Tryz.underlying94, fun _ => by kernel_rfl⟩
instance : Bs Tryz.prog 96 [(0, 7), (7, 1), (8, 1), (9, 1), (10, 6)] := ⟨_, Tryz.underlying96, fun _ => by kernel_rfl⟩
instance : Bs Tryz.prog 114 [(0, 1), (1, 3), (4, 1)] := ⟨_, Tryz.underlying114, fun _ => by kernel_rfl⟩
instance : Bs Tryz.prog 120 [(0, 1), (1, 1), (2, 3)] := ⟨_, Tryz.underlying120, fun _ => by kernel_rfl⟩
instance : Bs Tryz.prog 151 [(0, 1), (1, 1), (2, 1)] := ⟨_, Tryz.underlying151, fun _ => by kernel_rfl⟩
instance : Bs Tryz.prog 162 [(0, 1), (1, 3), (4, 1), (5, 1), (6, 1), (7, 1), (8, 1), (9, 1)] := ⟨_, Tryz.underlying162, fun _ => by kernel_rfl⟩
instance : Bs Tryz.prog 167 [(0, 1)] := ⟨_, Tryz.underlying167, fun _ => by kernel_rfl⟩
instance : Bs Tryz.prog 169 [(0, 1), (1, 1), (2, 1), (3, 1), (4, 1)] := ⟨_, Tryz.underlying169, fun _ => by kernel_rfl⟩
instance : Bs Tryz.prog 171 [(0, 5), (5, 1), (6, 1), (7, 1), (8, 1), (9, 1), (10, 1)] := ⟨_, Tryz.underlying171, fun _ => by kernel_rfl⟩
instance : Bs Tryz.prog 184 [(0, 1)] := ⟨_, Tryz.underlying184, fun _ => by kernel_rfl⟩
instance : Zr Tryz.prog 184 (.agg ⟨.pointer none :: []⟩) := ⟨by kernel_rfl⟩
instance : Bs Tryz.prog 187 [(0, 1), (1, 2), (3, 1), (4, 1), (5, 1), (6, 1), (7, 1), (8, 1)] := ⟨_, Tryz.underlying187, fun _ => by kernel_rfl⟩
instance : Bs Tryz.prog 200 [(0, 3), (3, 1)] := ⟨_, Tryz.underlying200, fun _ => by kernel_rfl⟩
instance : Bs Tryz.prog 224 [(0, 1), (1, 1)] := ⟨_, Tryz.underlying224, fun _ => by kernel_rfl⟩
instance : Bs Tryz.prog 232 [(0, 3)] := ⟨_, Tryz.underlying232, fun _ => by kernel_rfl⟩
instance : Zr Tryz.prog 232 (.agg ⟨.string ⟨#[]⟩ :: .string ⟨#[]⟩ :: .string ⟨#[]⟩ :: []⟩) := ⟨by kernel_rfl⟩
instance : Bs Tryz.prog 236 [(0, 1), (1, 1), (2, 1)] := ⟨_, Tryz.underlying236, fun _ => by kernel_rfl⟩
instance : Bs Tryz.prog 254 [(0, 1), (1, 1)] := ⟨_, Tryz.underlying254, fun _ => by kernel_rfl⟩
instance : Bs Tryz.prog 273 [(0, 3)] := ⟨_, Tryz.underlying273, fun _ => by kernel_rfl⟩
instance : Bs Tryz.prog 294 [(0, 2)] := ⟨_, Tryz.underlying294, fun _ => by kernel_rfl⟩
instance : Zr Tryz.prog 294 (.agg ⟨.int .u64 0 :: .int .u64 0 :: []⟩) := ⟨by kernel_rfl⟩
instance : Bs Tryz.prog 297 [(0, 2), (2, 1), (3, 1)] := ⟨_, Tryz.underlying297, fun _ => by kernel_rfl⟩
instance : Bs Tryz.prog 313 [(0, 1), (1, 1), (2, 1)] := ⟨_, Tryz.underlying313, fun _ => by kernel_rfl⟩
instance : Bs Tryz.prog 323 [(0, 1)] := ⟨_, Tryz.underlying323, fun _ => by kernel_rfl⟩
instance : Zr Tryz.prog 323 (.agg ⟨.pointer none :: []⟩) := ⟨by kernel_rfl⟩
instance : Bs Tryz.prog 325 [(0, 1), (1, 1), (2, 1), (3, 1), (4, 1)] := ⟨_, Tryz.underlying325, fun _ => by kernel_rfl⟩
instance : Bs Tryz.prog 346 [(0, 1), (1, 1)] := ⟨_, Tryz.underlying346, fun _ => by kernel_rfl⟩
instance : Bs Tryz.prog 363 [(0, 1)] := ⟨_, Tryz.underlying363, fun _ => by kernel_rfl⟩
instance : Zr Tryz.prog 363 (.agg ⟨.string ⟨#[]⟩ :: []⟩) := ⟨by kernel_rfl⟩
instance : Bs Tryz.prog 365 [(0, 1), (1, 1)] := ⟨_, Tryz.underlying365, fun _ => by kernel_rfl⟩
instance : Zr Tryz.prog 365 (.agg ⟨.string ⟨#[]⟩ :: .int .i64 0 :: []⟩) := ⟨by kernel_rfl⟩
instance : Bs Tryz.prog 371 [(0, 1)] := ⟨_, Tryz.underlying371, fun _ => by kernel_rfl⟩
instance : Zr Tryz.prog 371 (.agg ⟨.slice none 0 0 :: []⟩) := ⟨by kernel_rfl⟩
instance : Bs Tryz.prog 373 [(0, 1), (1, 1)] := ⟨_, Tryz.underlying373, fun _ => by kernel_rfl⟩
instance : Bs Tryz.prog 432 [(0, 1), (1, 1), (2, 1), (3, 1), (4, 1)] := ⟨_, Tryz.underlying432, fun _ => by kernel_rfl⟩
instance : Bs Tryz.prog 447 [(0, 1), (1, 1)] := ⟨_, Tryz.underlying447, fun _ => by kernel_rfl⟩
instance : Ba Tryz.prog 70 2 69 := ⟨by kernel_rfl⟩
instance : Zr Tryz.prog 70 (.agg ⟨.int .i64 0 :: .string ⟨#[]⟩ :: .string ⟨#[]⟩ :: .string ⟨#[]⟩ :: .int .i64 0 :: .string ⟨#[]⟩ :: .string ⟨#[]⟩ :: .string ⟨#[]⟩ :: []⟩) := ⟨by kernel_rfl⟩
instance : Ba Tryz.prog 73 6 22 := ⟨by kernel_rfl⟩
instance : Zr Tryz.prog 73 (.agg ⟨.int .u64 0 :: .int .u64 0 :: .int .u64 0 :: .int .u64 0 :: .int .u64 0 :: .int .u64 0 :: []⟩) := ⟨by kernel_rfl⟩
instance : Ba Tryz.prog 154 2 37 := ⟨by kernel_rfl⟩
instance : Zr Tryz.prog 154 (.agg ⟨.int .i64 0 :: .string ⟨#[]⟩ :: .string ⟨#[]⟩ :: .string ⟨#[]⟩ :: .int .i64 0 :: .string ⟨#[]⟩ :: .string ⟨#[]⟩ :: .string ⟨#[]⟩ :: []⟩) := ⟨by kernel_rfl⟩
instance : Ba Tryz.prog 185 2 3 := ⟨by kernel_rfl⟩
instance : Ba Tryz.prog 211 3 210 := ⟨by kernel_rfl⟩
instance : Ba Tryz.prog 237 4 236 := ⟨by kernel_rfl⟩
instance : Ba Tryz.prog 290 6 9 := ⟨by kernel_rfl⟩
instance : Ba Tryz.prog 292 2 22 := ⟨by kernel_rfl⟩
instance : Zr Tryz.prog 292 (.agg ⟨.int .u64 0 :: .int .u64 0 :: []⟩) := ⟨by kernel_rfl⟩
instance : Ba Tryz.prog 314 3 313 := ⟨by kernel_rfl⟩
instance : Ba Tryz.prog 376 2 5 := ⟨by kernel_rfl⟩
instance : Ba Tryz.prog 396 24 5 := ⟨by kernel_rfl⟩
instance : Ba Tryz.prog 424 20 22 := ⟨by kernel_rfl⟩
instance : Zr Tryz.prog 424 (.agg ⟨.int .u64 0 :: .int .u64 0 :: .int .u64 0 :: .int .u64 0 :: .int .u64 0 :: .int .u64 0 :: .int .u64 0 :: .int .u64 0 :: .int .u64 0 :: .int .u64 0 :: .int .u64 0 :: .int .u64 0 :: .int .u64 0 :: .int .u64 0 :: .int .u64 0 :: .int .u64 0 :: .int .u64 0 :: .int .u64 0 :: .int .u64 0 :: .int .u64 0 :: []⟩) := ⟨by kernel_rfl⟩
instance : Ba Tryz.prog 426 65 5 := ⟨by kernel_rfl⟩
instance : Ba Tryz.prog 433 9 432 := ⟨by kernel_rfl⟩
instance : Ba Tryz.prog 438 4 5 := ⟨by kernel_rfl⟩
instance : Ba Tryz.prog 443 32 5 := ⟨by kernel_rfl⟩
instance : Zr Tryz.prog 443 (.agg ⟨.int .u8 0 :: .int .u8 0 :: .int .u8 0 :: .int .u8 0 :: .int .u8 0 :: .int .u8 0 :: .int .u8 0 :: .int .u8 0 :: .int .u8 0 :: .int .u8 0 :: .int .u8 0 :: .int .u8 0 :: .int .u8 0 :: .int .u8 0 :: .int .u8 0 :: .int .u8 0 :: .int .u8 0 :: .int .u8 0 :: .int .u8 0 :: .int .u8 0 :: .int .u8 0 :: .int .u8 0 :: .int .u8 0 :: .int .u8 0 :: .int .u8 0 :: .int .u8 0 :: .int .u8 0 :: .int .u8 0 :: .int .u8 0 :: .int .u8 0 :: .int .u8 0 :: .int .u8 0 :: []⟩) := ⟨by kernel_rfl⟩
instance : Ba Tryz.prog 444 64 5 := ⟨by kernel_rfl⟩
instance : Zr Tryz.prog 444 (.agg ⟨.int .u8 0 :: .int .u8 0 :: .int .u8 0 :: .int .u8 0 :: .int .u8 0 :: .int .u8 0 :: .int .u8 0 :: .int .u8 0 :: .int .u8 0 :: .int .u8 0 :: .int .u8 0 :: .int .u8 0 :: .int .u8 0 :: .int .u8 0 :: .int .u8 0 :: .int .u8 0 :: .int .u8 0 :: .int .u8 0 :: .int .u8 0 :: .int .u8 0 :: .int .u8 0 :: .int .u8 0 :: .int .u8 0 :: .int .u8 0 :: .int .u8 0 :: .int .u8 0 :: .int .u8 0 :: .int .u8 0 :: .int .u8 0 :: .int .u8 0 :: .int .u8 0 :: .int .u8 0 :: .int .u8 0 :: .int .u8 0 :: .int .u8 0 :: .int .u8 0 :: .int .u8 0 :: .int .u8 0 :: .int .u8 0 :: .int .u8 0 :: .int .u8 0 :: .int .u8 0 :: .int .u8 0 :: .int .u8 0 :: .int .u8 0 :: .int .u8 0 :: .int .u8 0 :: .int .u8 0 :: .int .u8 0 :: .int .u8 0 :: .int .u8 0 :: .int .u8 0 :: .int .u8 0 :: .int .u8 0 :: .int .u8 0 :: .int .u8 0 :: .int .u8 0 :: .int .u8 0 :: .int .u8 0 :: .int .u8 0 :: .int .u8 0 :: .int .u8 0 :: .int .u8 0 :: .int .u8 0 :: []⟩) := ⟨by kernel_rfl⟩
instance : Ba Tryz.prog 445 256 5 := ⟨by kernel_rfl⟩
instance : Zr Tryz.prog 445 (.agg ⟨.int .u8 0 :: .int .u8 0 :: .int .u8 0 :: .int .u8 0 :: .int .u8 0 :: .int .u8 0 :: .int .u8 0 :: .int .u8 0 :: .int .u8 0 :: .int .u8 0 :: .int .u8 0 :: .int .u8 0 :: .int .u8 0 :: .int .u8 0 :: .int .u8 0 :: .int .u8 0 :: .int .u8 0 :: .int .u8 0 :: .int .u8 0 :: .int .u8 0 :: .int .u8 0 :: .int .u8 0 :: .int .u8 0 :: .int .u8 0 :: .int .u8 0 :: .int .u8 0 :: .int .u8 0 :: .int .u8 0 :: .int .u8 0 :: .int .u8 0 :: .int .u8 0 :: .int .u8 0 :: .int .u8 0 :: .int .u8 0 :: .int .u8 0 :: .int .u8 0 :: .int .u8 0 :: .int .u8 0 :: .int .u8 0 :: .int .u8 0 :: .int .u8 0 :: .int .u8 0 :: .int .u8 0 :: .int .u8 0 :: .int .u8 0 :: .int .u8 0 :: .int .u8 0 :: .int .u8 0 :: .int .u8 0 :: .int .u8 0 :: .int .u8 0 :: .int .u8 0 :: .int .u8 0 :: .int .u8 0 :: .int .u8 0 :: .int .u8 0 :: .int .u8 0 :: .int .u8 0 :: .int .u8 0 :: .int .u8 0 :: .int .u8 0 :: .int .u8 0 :: .int .u8 0 :: .int .u8 0 :: .int .u8 0 :: .int .u8 0 :: .int .u8 0 :: .int .u8 0 :: .int .u8 0 :: .int .u8 0 :: .int .u8 0 :: .int .u8 0 :: .int .u8 0 :: .int .u8 0 :: .int .u8 0 :: .int .u8 0 :: .int .u8 0 :: .int .u8 0 :: .int .u8 0 :: .int .u8 0 :: .int .u8 0 :: .int .u8 0 :: .int .u8 0 :: .int .u8 0 :: .int .u8 0 :: .int .u8 0 :: .int .u8 0 :: .int .u8 0 :: .int .u8 0 :: .int .u8 0 :: .int .u8 0 :: .int .u8 0 :: .int .u8 0 :: .int .u8 0 :: .int .u8 0 :: .int .u8 0 :: .int .u8 0 :: .int .u8 0 :: .int .u8 0 :: .int .u8 0 :: .int .u8 0 :: .int .u8 0 :: .int .u8 0 :: .int .u8 0 :: .int .u8 0 :: .int .u8 0 :: .int .u8 0 :: .int .u8 0 :: .int .u8 0 :: .int .u8 0 :: .int .u8 0 :: .int .u8 0 :: .int .u8 0 :: .int .u8 0 :: .int .u8 0 :: .int .u8 0 :: .int .u8 0 :: .int .u8 0 :: .int .u8 0 :: .int .u8 0 :: .int .u8 0 :: .int .u8 0 :: .int .u8 0 :: .int .u8 0 :: .int .u8 0 :: .int .u8 0 :: .int .u8 0 :: .int .u8 0 :: .int .u8 0 :: .int .u8 0 :: .int .u8 0 :: .int .u8 0 :: .int .u8 0 :: .int .u8 0 :: .int .u8 0 :: .int .u8 0 :: .int .u8 0 :: .int .u8 0 :: .int .u8 0 :: .int .u8 0 :: .int .u8 0 :: .int .u8 0 :: .int .u8 0 :: .int .u8 0 :: .int .u8 0 :: .int .u8 0 :: .int .u8 0 :: .int .u8 0 :: .int .u8 0 :: .int .u8 0 :: .int .u8 0 :: .int .u8 0 :: .int .u8 0 :: .int .u8 0 :: .int .u8 0 :: .int .u8 0 :: .int .u8 0 :: .int .u8 0 :: .int .u8 0 :: .int .u8 0 :: .int .u8 0 :: .int .u8 0 :: .int .u8 0 :: .int .u8 0 :: .int .u8 0 :: .int .u8 0 :: .int .u8 0 :: .int .u8 0 :: .int .u8 0 :: .int .u8 0 :: .int .u8 0 :: .int .u8 0 :: .int .u8 0 :: .int .u8 0 :: .int .u8 0 :: .int .u8 0 :: .int .u8 0 :: .int .u8 0 :: .int .u8 0 :: .int .u8 0 :: .int .u8 0 :: .int .u8 0 :: .int .u8 0 :: .int .u8 0 :: .int .u8 0 :: .int .u8 0 :: .int .u8 0 :: .int .u8 0 :: .int .u8 0 :: .int .u8 0 :: .int .u8 0 :: .int .u8 0 :: .int .u8 0 :: .int .u8 0 :: .int .u8 0 :: .int .u8 0 :: .int .u8 0 :: .int .u8 0 :: .int .u8 0 :: .int .u8 0 :: .int .u8 0 :: .int .u8 0 :: .int .u8 0 :: .int .u8 0 :: .int .u8 0 :: .int .u8 0 :: .int .u8 0 :: .int .u8 0 :: .int .u8 0 :: .int .u8 0 :: .int .u8 0 :: .int .u8 0 :: .int .u8 0 :: .int .u8 0 :: .int .u8 0 :: .int .u8 0 :: .int .u8 0 :: .int .u8 0 :: .int .u8 0 :: .int .u8 0 :: .int .u8 0 :: .int .u8 0 :: .int .u8 0 :: .int .u8 0 :: .int .u8 0 :: .int .u8 0 :: .int .u8 0 :: .int .u8 0 :: .int .u8 0 :: .int .u8 0 :: .int .u8 0 :: .int .u8 0 :: .int .u8 0 :: .int .u8 0 :: .int .u8 0 :: .int .u8 0 :: .int .u8 0 :: .int .u8 0 :: .int .u8 0 :: .int .u8 0 :: .int .u8 0 :: .int .u8 0 :: .int .u8 0 :: .int .u8 0 :: .int .u8 0 :: .int .u8 0 :: .int .u8 0 :: .int .u8 0 :: .int .u8 0 :: .int .u8 0 :: .int .u8 0 :: .int .u8 0 :: .int .u8 0 :: .int .u8 0 :: .int .u8 0 :: .int .u8 0 :: []⟩) := ⟨by kernel_rfl⟩
instance : Ba Tryz.prog 448 16 447 := ⟨by kernel_rfl⟩
instance : Zr Tryz.prog 448 (.agg ⟨.int .u8 0 :: .int .u8 0 :: .int .u8 0 :: .int .u8 0 :: .int .u8 0 :: .int .u8 0 :: .int .u8 0 :: .int .u8 0 :: .int .u8 0 :: .int .u8 0 :: .int .u8 0 :: .int .u8 0 :: .int .u8 0 :: .int .u8 0 :: .int .u8 0 :: .int .u8 0 :: .int .u8 0 :: .int .u8 0 :: .int .u8 0 :: .int .u8 0 :: .int .u8 0 :: .int .u8 0 :: .int .u8 0 :: .int .u8 0 :: .int .u8 0 :: .int .u8 0 :: .int .u8 0 :: .int .u8 0 :: .int .u8 0 :: .int .u8 0 :: .int .u8 0 :: .int .u8 0 :: []⟩) := ⟨by kernel_rfl⟩
instance : El Tryz.prog 25 34 := ⟨by kernel_rfl⟩
instance : El Tryz.prog 38 37 := ⟨by kernel_rfl⟩
instance : El Tryz.prog 52 5 := ⟨by kernel_rfl⟩
instance : El Tryz.prog 68 69 := ⟨by kernel_rfl⟩
instance : El Tryz.prog 107 114 := ⟨by kernel_rfl⟩
instance : El Tryz.prog 116 120 := ⟨by kernel_rfl⟩
instance : El Tryz.prog 143 9 := ⟨by kernel_rfl⟩
instance : El Tryz.prog 165 175 := ⟨by kernel_rfl⟩
instance : El Tryz.prog 225 224 := ⟨by kernel_rfl⟩
instance : El Tryz.prog 249 254 := ⟨by kernel_rfl⟩
instance : El Tryz.prog 295 3 := ⟨by kernel_rfl⟩
instance : El Tryz.prog 305 151 := ⟨by kernel_rfl⟩
instance : El Tryz.prog 343 346 := ⟨by kernel_rfl⟩
instance : El Tryz.prog 391 22 := ⟨by kernel_rfl⟩
instance : El Tryz.prog 436 432 := ⟨by kernel_rfl⟩
instance : By Tryz.prog 3 8 := ⟨by kernel_rfl⟩
instance : By Tryz.prog 5 1 := ⟨by kernel_rfl⟩
instance : By Tryz.prog 9 16 := ⟨by kernel_rfl⟩
instance : By Tryz.prog 22 8 := ⟨by kernel_rfl⟩
instance : By Tryz.prog 34 48 := ⟨by kernel_rfl⟩
instance : By Tryz.prog 37 56 := ⟨by kernel_rfl⟩
instance : By Tryz.prog 69 56 := ⟨by kernel_rfl⟩
instance : By Tryz.prog 114 64 := ⟨by kernel_rfl⟩
instance : By Tryz.prog 120 64 := ⟨by kernel_rfl⟩
instance : By Tryz.prog 151 40 := ⟨by kernel_rfl⟩
instance : By Tryz.prog 175 48 := ⟨by kernel_rfl⟩
instance : By Tryz.prog 210 8 := ⟨by kernel_rfl⟩
instance : By Tryz.prog 224 24 := ⟨by kernel_rfl⟩
instance : By Tryz.prog 254 24 := ⟨by kernel_rfl⟩
instance : By Tryz.prog 346 16 := ⟨by kernel_rfl⟩
instance : By Tryz.prog 432 24 := ⟨by kernel_rfl⟩
instance : By Tryz.prog 447 2 := ⟨by kernel_rfl⟩
theorem mixed : Tryz.prog.follows .mixedOrders = true := by kernel_rfl
end Go.Proofs.YtaejmginhkbbhaaGreatDoor
