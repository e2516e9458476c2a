import Derived.Test.YtegcdnjihnpolaaEd
import Derived.Test.YtegcdnjihnpolaaProg
namespace Go.Proofs.Ytegcdnjihnpolaa
open Go Go.Eng Go.Proofs

/-- the types of the program, as far as the engine asks for them -/
def TL : List (Nat × TI) := [(2, { known := true, td := .int .i64, size := 1, agg := false, zero := some (.one (.lit .i64 0)), plain := true }),
  (3, { known := true, td := .int .i64, size := 1, agg := false, zero := some (.one (.lit .i64 0)), plain := true }),
  (4, { known := true, td := .bool, size := 1, agg := false, zero := some (.one (.lbool false)), plain := true }),
  (5, { known := true, td := .int .u8, size := 1, agg := false, zero := some (.one (.lit .u8 0)), plain := true }),
  (6, { known := true, td := .int .u8, size := 1, agg := false, zero := some (.one (.lit .u8 0)), plain := true }),
  (7, { known := true, td := .strct [(0, 2), (1, 3), (2, 4), (3, 6)], size := 4, agg := true, zero := some (.agg (.lst [.lit .i64 0, .lit .i64 0, .lbool false, .lit .u8 0])), plain := true }),
  (8, { known := true, td := .strct [(0, 2), (1, 3), (2, 4), (3, 6)], size := 4, agg := true, zero := some (.agg (.lst [.lit .i64 0, .lit .i64 0, .lbool false, .lit .u8 0])), plain := true }),
  (9, { known := true, td := .str, size := 1, agg := false, zero := some (.one (.str .empty)), plain := true }),
  (10, { known := true, td := .str, size := 1, agg := false, zero := some (.one (.str .empty)), plain := true }),
  (11, { known := true, td := .str, size := 1, agg := false, zero := some (.one (.str .empty)), plain := true }),
  (12, { known := true, td := .int .u64, size := 1, agg := false, zero := some (.one (.lit .u64 0)), plain := true }),
  (13, { known := true, td := .strct [(0, 9), (1, 12)], size := 2, agg := true, zero := some (.agg (.lst [.str .empty, .lit .u64 0])), plain := true }),
  (14, { known := true, td := .strct [(0, 9), (1, 12)], size := 2, agg := true, zero := some (.agg (.lst [.str .empty, .lit .u64 0])), plain := true }),
  (15, { known := true, td := .ptr 205, size := 1, agg := false, zero := some (.one (.nil)), plain := true }),
  (16, { known := true, td := .ptr 208, size := 1, agg := false, zero := some (.one (.nil)), plain := true }),
  (17, { known := true, td := .ptr 217, size := 1, agg := false, zero := some (.one (.nil)), plain := true }),
  (18, { known := true, td := .strct [(0, 17)], size := 1, agg := true, zero := some (.agg (.lst [.nil])), plain := true }),
  (19, { known := true, td := .strct [(0, 17)], size := 1, agg := true, zero := some (.agg (.lst [.nil])), plain := true }),
  (21, { known := true, td := .int .i32, size := 1, agg := false, zero := some (.one (.lit .i32 0)), plain := true }),
  (22, { known := true, td := .int .u64, size := 1, agg := false, zero := some (.one (.lit .u64 0)), plain := true }),
  (23, { known := true, td := .arr 4 22, size := 4, agg := true, zero := some (.agg (.ints .u64 (.lit 4) (fun _ => 0))), plain := true }),
  (24, { known := true, td := .arr 4 22, size := 4, agg := true, zero := some (.agg (.ints .u64 (.lit 4) (fun _ => 0))), plain := true }),
  (36, { known := true, td := .slice 24, size := 1, agg := false, zero := some (.one .nsl), plain := true }),
  (40, { known := true, td := .slice 43, size := 1, agg := false, zero := some (.one .nsl), plain := true }),
  (42, { known := true, td := .arr 32 5, size := 32, agg := true, zero := some (.agg (.ints .u8 (.lit 32) (fun _ => 0))), plain := true }),
  (43, { known := true, td := .arr 32 5, size := 32, agg := true, zero := some (.agg (.ints .u8 (.lit 32) (fun _ => 0))), plain := true }),
  (48, { known := true, td := .slice 42, size := 1, agg := false, zero := some (.one .nsl), plain := true }),
  (53, { known := true, td := .slice 40, size := 1, agg := false, zero := some (.one .nsl), plain := true }),
  (60, { known := true, td := .int .i64, size := 1, agg := false, zero := some (.one (.lit .i64 0)), plain := true }),
  (85, { known := true, td := .int .u32, size := 1, agg := false, zero := some (.one (.lit .u32 0)), plain := true }),
  (88, { known := true, td := .arr 40 3, size := 40, agg := true, zero := some (.agg (.ints .i64 (.lit 40) (fun _ => 0))), plain := true }),
  (89, { known := true, td := .arr 40 3, size := 40, agg := true, zero := some (.agg (.ints .i64 (.lit 40) (fun _ => 0))), plain := true }),
  (106, { known := true, td := .slice 4, size := 1, agg := false, zero := some (.one .nsl), plain := true }),
  (115, { known := true, td := .slice 3, size := 1, agg := false, zero := some (.one .nsl), plain := true }),
  (143, { known := true, td := .slice 5, size := 1, agg := false, zero := some (.one .nsl), plain := true }),
  (147, { known := true, td := .arr 8 22, size := 8, agg := true, zero := some (.agg (.ints .u64 (.lit 8) (fun _ => 0))), plain := true }),
  (149, { known := true, td := .slice 22, size := 1, agg := false, zero := some (.one .nsl), plain := true }),
  (150, { known := true, td := .arr 16 22, size := 16, agg := true, zero := some (.agg (.ints .u64 (.lit 16) (fun _ => 0))), plain := true }),
  (151, { known := true, td := .int .u64, size := 1, agg := false, zero := some (.one (.lit .u64 0)), plain := true }),
  (157, { known := true, td := .ptr 159, size := 1, agg := false, zero := some (.one (.nil)), plain := true }),
  (161, { known := true, td := .slice 48, size := 1, agg := false, zero := some (.one .nsl), plain := true }),
  (164, { known := true, td := .ptr 166, size := 1, agg := false, zero := some (.one (.nil)), plain := true }),
  (180, { known := true, td := .ptr 194, size := 1, agg := false, zero := some (.one (.nil)), plain := true }),
  (184, { known := true, td := .arr 8 85, size := 8, agg := true, zero := some (.agg (.ints .u32 (.lit 8) (fun _ => 0))), plain := true }),
  (186, { known := true, td := .arr 64 5, size := 64, agg := true, zero := some (.agg (.ints .u8 (.lit 64) (fun _ => 0))), plain := true }),
  (191, { known := true, td := .arr 8 85, size := 8, agg := true, zero := some (.agg (.ints .u32 (.lit 8) (fun _ => 0))), plain := true }),
  (196, { known := true, td := .arr 64 85, size := 64, agg := true, zero := some (.agg (.ints .u32 (.lit 64) (fun _ => 0))), plain := true }),
  (200, { known := true, td := .ptr 186, size := 1, agg := false, zero := some (.one (.nil)), plain := true }),
  (201, { known := true, td := .ptr 196, size := 1, agg := false, zero := some (.one (.nil)), plain := true }),
  (204, { known := true, td := .strct [(0, 17), (1, 17), (2, 17), (3, 9)], size := 4, agg := true, zero := some (.agg (.lst [.nil, .nil, .nil, .str .empty])), plain := true }),
  (205, { known := true, td := .strct [(0, 17), (1, 17), (2, 17), (3, 9)], size := 4, agg := true, zero := some (.agg (.lst [.nil, .nil, .nil, .str .empty])), plain := true }),
  (206, { known := true, td := .arr 0 16, size := 0, agg := true, zero := some (.agg (.lst [])), plain := true }),
  (207, { known := true, td := .strct [(0, 206)], size := 0, agg := true, zero := some (.agg (.lst [])), plain := true }),
  (208, { known := true, td := .strct [(0, 206)], size := 0, agg := true, zero := some (.agg (.lst [])), plain := true }),
  (210, { known := true, td := .int .u8, size := 1, agg := false, zero := some (.one (.lit .u8 0)), plain := true }),
  (211, { known := true, td := .int .u8, size := 1, agg := false, zero := some (.one (.lit .u8 0)), plain := true }),
  (213, { known := true, td := .ptr 5, size := 1, agg := false, zero := some (.one (.nil)), plain := true }),
  (214, { known := true, td := .int .i32, size := 1, agg := false, zero := some (.one (.lit .i32 0)), plain := true }),
  (215, { known := true, td := .int .i32, size := 1, agg := false, zero := some (.one (.lit .i32 0)), plain := true })]
theorem tok2 : TOk Try.prog 2 { known := true, td := .int .i64, size := 1, agg := false, zero := some (.one (.lit .i64 0)), plain := true } := .of_eq (by kernel_rfl) rfl
theorem tok3 : TOk Try.prog 3 { known := true, td := .int .i64, size := 1, agg := false, zero := some (.one (.lit .i64 0)), plain := true } := .of_eq (by kernel_rfl) rfl
theorem tok4 : TOk Try.prog 4 { known := true, td := .bool, size := 1, agg := false, zero := some (.one (.lbool false)), plain := true } := .of_eq (by kernel_rfl) rfl
theorem tok5 : TOk Try.prog 5 { known := true, td := .int .u8, size := 1, agg := false, zero := some (.one (.lit .u8 0)), plain := true } := .of_eq (by kernel_rfl) rfl
theorem tok6 : TOk Try.prog 6 { known := true, td := .int .u8, size := 1, agg := false, zero := some (.one (.lit .u8 0)), plain := true } := .of_eq (by kernel_rfl) rfl
theorem tok7 : TOk Try.prog 7 { known := true, td := .strct [(0, 2), (1, 3), (2, 4), (3, 6)], size := 4, agg := true, zero := some (.agg (.lst [.lit .i64 0, .lit .i64 0, .lbool false, .lit .u8 0])), plain := true } := .of_eq (by kernel_rfl) rfl
theorem tok8 : TOk Try.prog 8 { known := true, td := .strct [(0, 2), (1, 3), (2, 4), (3, 6)], size := 4, agg := true, zero := some (.agg (.lst [.lit .i64 0, .lit .i64 0, .lbool false, .lit .u8 0])), plain := true } := .of_eq (by kernel_rfl) rfl
theorem tok9 : TOk Try.prog 9 { known := true, td := .str, size := 1, agg := false, zero := some (.one (.str .empty)), plain := true } := .of_eq (by kernel_rfl) rfl
theorem tok10 : TOk Try.prog 10 { known := true, td := .str, size := 1, agg := false, zero := some (.one (.str .empty)), plain := true } := .of_eq (by kernel_rfl) rfl
theorem tok11 : TOk Try.prog 11 { known := true, td := .str, size := 1, agg := false, zero := some (.one (.str .empty)), plain := true } := .of_eq (by kernel_rfl) rfl
theorem tok12 : TOk Try.prog 12 { known := true, td := .int .u64, size := 1, agg := false, zero := some (.one (.lit .u64 0)), plain := true } := .of_eq (by kernel_rfl) rfl
theorem tok13 : TOk Try.prog 13 { known := true, td := .strct [(0, 9), (1, 12)], size := 2, agg := true, zero := some (.agg (.lst [.str .empty, .lit .u64 0])), plain := true } := .of_eq (by kernel_rfl) rfl
theorem tok14 : TOk Try.prog 14 { known := true, td := .strct [(0, 9), (1, 12)], size := 2, agg := true, zero := some (.agg (.lst [.str .empty, .lit .u64 0])), plain := true } := .of_eq (by kernel_rfl) rfl
theorem tok15 : TOk Try.prog 15 { known := true, td := .ptr 205, size := 1, agg := false, zero := some (.one (.nil)), plain := true } := .of_eq (by kernel_rfl) rfl
theorem tok16 : TOk Try.prog 16 { known := true, td := .ptr 208, size := 1, agg := false, zero := some (.one (.nil)), plain := true } := .of_eq (by kernel_rfl) rfl
theorem tok17 : TOk Try.prog 17 { known := true, td := .ptr 217, size := 1, agg := false, zero := some (.one (.nil)), plain := true } := .of_eq (by kernel_rfl) rfl
theorem tok18 : TOk Try.prog 18 { known := true, td := .strct [(0, 17)], size := 1, agg := true, zero := some (.agg (.lst [.nil])), plain := true } := .of_eq (by kernel_rfl) rfl
theorem tok19 : TOk Try.prog 19 { known := true, td := .strct [(0, 17)], size := 1, agg := true, zero := some (.agg (.lst [.nil])), plain := true } := .of_eq (by kernel_rfl) rfl
theorem tok21 : TOk Try.prog 21 { known := true, td := .int .i32, size := 1, agg := false, zero := some (.one (.lit .i32 0)), plain := true } := .of_eq (by kernel_rfl) rfl
theorem tok22 : TOk Try.prog 22 { known := true, td := .int .u64, size := 1, agg := false, zero := some (.one (.lit .u64 0)), plain := true } := .of_eq (by kernel_rfl) rfl
theorem tok23 : TOk Try.prog 23 { known := true, td := .arr 4 22, size := 4, agg := true, zero := some (.agg (.ints .u64 (.lit 4) (fun _ => 0))), plain := true } := .of_eq (by kernel_rfl) rfl
theorem tok24 : TOk Try.prog 24 { known := true, td := .arr 4 22, size := 4, agg := true, zero := some (.agg (.ints .u64 (.lit 4) (fun _ => 0))), plain := true } := .of_eq (by kernel_rfl) rfl
theorem tok36 : TOk Try.prog 36 { known := true, td := .slice 24, size := 1, agg := false, zero := some (.one .nsl), plain := true } := .of_eq (by kernel_rfl) rfl
theorem tok40 : TOk Try.prog 40 { known := true, td := .slice 43, size := 1, agg := false, zero := some (.one .nsl), plain := true } := .of_eq (by kernel_rfl) rfl
theorem tok42 : TOk Try.prog 42 { known := true, td := .arr 32 5, size := 32, agg := true, zero := some (.agg (.ints .u8 (.lit 32) (fun _ => 0))), plain := true } := .of_eq (by kernel_rfl) rfl
theorem tok43 : TOk Try.prog 43 { known := true, td := .arr 32 5, size := 32, agg := true, zero := some (.agg (.ints .u8 (.lit 32) (fun _ => 0))), plain := true } := .of_eq (by kernel_rfl) rfl
theorem tok48 : TOk Try.prog 48 { known := true, td := .slice 42, size := 1, agg := false, zero := some (.one .nsl), plain := true } := .of_eq (by kernel_rfl) rfl
theorem tok53 : TOk Try.prog 53 { known := true, td := .slice 40, size := 1, agg := false, zero := some (.one .nsl), plain := true } := .of_eq (by kernel_rfl) rfl
theorem tok60 : TOk Try.prog 60 { known := true, td := .int .i64, size := 1, agg := false, zero := some (.one (.lit .i64 0)), plain := true } := .of_eq (by kernel_rfl) rfl
theorem tok85 : TOk Try.prog 85 { known := true, td := .int .u32, size := 1, agg := false, zero := some (.one (.lit .u32 0)), plain := true } := .of_eq (by kernel_rfl) rfl
theorem tok88 : TOk Try.prog 88 { known := true, td := .arr 40 3, size := 40, agg := true, zero := some (.agg (.ints .i64 (.lit 40) (fun _ => 0))), plain := true } := .of_eq (by kernel_rfl) rfl
theorem tok89 : TOk Try.prog 89 { known := true, td := .arr 40 3, size := 40, agg := true, zero := some (.agg (.ints .i64 (.lit 40) (fun _ => 0))), plain := true } := .of_eq (by kernel_rfl) rfl
theorem tok106 : TOk Try.prog 106 { known := true, td := .slice 4, size := 1, agg := false, zero := some (.one .nsl), plain := true } := .of_eq (by kernel_rfl) rfl
theorem tok115 : TOk Try.prog 115 { known := true, td := .slice 3, size := 1, agg := false, zero := some (.one .nsl), plain := true } := .of_eq (by kernel_rfl) rfl
theorem tok143 : TOk Try.prog 143 { known := true, td := .slice 5, size := 1, agg := false, zero := some (.one .nsl), plain := true } := .of_eq (by kernel_rfl) rfl
theorem tok147 : TOk Try.prog 147 { known := true, td := .arr 8 22, size := 8, agg := true, zero := some (.agg (.ints .u64 (.lit 8) (fun _ => 0))), plain := true } := .of_eq (by kernel_rfl) rfl
theorem tok149 : TOk Try.prog 149 { known := true, td := .slice 22, size := 1, agg := false, zero := some (.one .nsl), plain := true } := .of_eq (by kernel_rfl) rfl
theorem tok150 : TOk Try.prog 150 { known := true, td := .arr 16 22, size := 16, agg := true, zero := some (.agg (.ints .u64 (.lit 16) (fun _ => 0))), plain := true } := .of_eq (by kernel_rfl) rfl
theorem tok151 : TOk Try.prog 151 { known := true, td := .int .u64, size := 1, agg := false, zero := some (.one (.lit .u64 0)), plain := true } := .of_eq (by kernel_rfl) rfl
theorem tok157 : TOk Try.prog 157 { known := true, td := .ptr 159, size := 1, agg := false, zero := some (.one (.nil)), plain := true } := .of_eq (by kernel_rfl) rfl
theorem tok161 : TOk Try.prog 161 { known := true, td := .slice 48, size := 1, agg := false, zero := some (.one .nsl), plain := true } := .of_eq (by kernel_rfl) rfl
theorem tok164 : TOk Try.prog 164 { known := true, td := .ptr 166, size := 1, agg := false, zero := some (.one (.nil)), plain := true } := .of_eq (by kernel_rfl) rfl
theorem tok180 : TOk Try.prog 180 { known := true, td := .ptr 194, size := 1, agg := false, zero := some (.one (.nil)), plain := true } := .of_eq (by kernel_rfl) rfl
theorem tok184 : TOk Try.prog 184 { known := true, td := .arr 8 85, size := 8, agg := true, zero := some (.agg (.ints .u32 (.lit 8) (fun _ => 0))), plain := true } := .of_eq (by kernel_rfl) rfl
theorem tok186 : TOk Try.prog 186 { known := true, td := .arr 64 5, size := 64, agg := true, zero := some (.agg (.ints .u8 (.lit 64) (fun _ => 0))), plain := true } := .of_eq (by kernel_rfl) rfl
theorem tok191 : TOk Try.prog 191 { known := true, td := .arr 8 85, size := 8, agg := true, zero := some (.agg (.ints .u32 (.lit 8) (fun _ => 0))), plain := true } := .of_eq (by kernel_rfl) rfl
theorem tok196 : TOk Try.prog 196 { known := true, td := .arr 64 85, size := 64, agg := true, zero := some (.agg (.ints .u32 (.lit 64) (fun _ => 0))), plain := true } := .of_eq (by kernel_rfl) rfl
theorem tok200 : TOk Try.prog 200 { known := true, td := .ptr 186, size := 1, agg := false, zero := some (.one (.nil)), plain := true } := .of_eq (by kernel_rfl) rfl
theorem tok201 : TOk Try.prog 201 { known := true, td := .ptr 196, size := 1, agg := false, zero := some (.one (.nil)), plain := true } := .of_eq (by kernel_rfl) rfl
theorem tok204 : TOk Try.prog 204 { known := true, td := .strct [(0, 17), (1, 17), (2, 17), (3, 9)], size := 4, agg := true, zero := some (.agg (.lst [.nil, .nil, .nil, .str .empty])), plain := true } := .of_eq (by kernel_rfl) rfl
theorem tok205 : TOk Try.prog 205 { known := true, td := .strct [(0, 17), (1, 17), (2, 17), (3, 9)], size := 4, agg := true, zero := some (.agg (.lst [.nil, .nil, .nil, .str .empty])), plain := true } := .of_eq (by kernel_rfl) rfl
theorem tok206 : TOk Try.prog 206 { known := true, td := .arr 0 16, size := 0, agg := true, zero := some (.agg (.lst [])), plain := true } := .of_eq (by kernel_rfl) rfl
theorem tok207 : TOk Try.prog 207 { known := true, td := .strct [(0, 206)], size := 0, agg := true, zero := some (.agg (.lst [])), plain := true } := .of_eq (by kernel_rfl) rfl
theorem tok208 : TOk Try.prog 208 { known := true, td := .strct [(0, 206)], size := 0, agg := true, zero := some (.agg (.lst [])), plain := true } := .of_eq (by kernel_rfl) rfl
theorem tok210 : TOk Try.prog 210 { known := true, td := .int .u8, size := 1, agg := false, zero := some (.one (.lit .u8 0)), plain := true } := .of_eq (by kernel_rfl) rfl
theorem tok211 : TOk Try.prog 211 { known := true, td := .int .u8, size := 1, agg := false, zero := some (.one (.lit .u8 0)), plain := true } := .of_eq (by kernel_rfl) rfl
theorem tok213 : TOk Try.prog 213 { known := true, td := .ptr 5, size := 1, agg := false, zero := some (.one (.nil)), plain := true } := .of_eq (by kernel_rfl) rfl
theorem tok214 : TOk Try.prog 214 { known := true, td := .int .i32, size := 1, agg := false, zero := some (.one (.lit .i32 0)), plain := true } := .of_eq (by kernel_rfl) rfl
theorem tok215 : TOk Try.prog 215 { known := true, td := .int .i32, size := 1, agg := false, zero := some (.one (.lit .i32 0)), plain := true } := .of_eq (by kernel_rfl) rfl
theorem tl_ok : ∀ p ∈ TL, TOk Try.prog p.1 p.2 := (List.forall_mem_cons.2 ⟨tok2, (List.forall_mem_cons.2 ⟨tok3, (List.forall_mem_cons.2 ⟨tok4, (List.forall_mem_cons.2 ⟨tok5, (List.forall_mem_cons.2 ⟨tok6, (List.forall_mem_cons.2 ⟨tok7, (List.forall_mem_cons.2 ⟨tok8, (List.forall_mem_cons.2 ⟨tok9, (List.forall_mem_cons.2 ⟨tok10, (List.forall_mem_cons.2 ⟨tok11, (List.forall_mem_cons.2 ⟨tok12, (List.forall_mem_cons.2 ⟨tok13, (List.forall_mem_cons.2 ⟨tok14, (List.forall_mem_cons.2 ⟨tok15, (List.forall_mem_cons.2 ⟨tok16, (List.forall_mem_cons.2 ⟨tok17, (List.forall_mem_cons.2 ⟨tok18, (List.forall_mem_cons.2 ⟨tok19, (List.forall_mem_cons.2 ⟨tok21, (List.forall_mem_cons.2 ⟨tok22, (List.forall_mem_cons.2 ⟨tok23, (List.forall_mem_cons.2 ⟨tok24, (List.forall_mem_cons.2 ⟨tok36, (List.forall_mem_cons.2 ⟨tok40, (List.forall_mem_cons.2 ⟨tok42, (List.forall_mem_cons.2 ⟨tok43, (List.forall_mem_cons.2 ⟨tok48, (List.forall_mem_cons.2 ⟨tok53, (List.forall_mem_cons.2 ⟨tok60, (List.forall_mem_cons.2 ⟨tok85, (List.forall_mem_cons.2 ⟨tok88, (List.forall_mem_cons.2 ⟨tok89, (List.forall_mem_cons.2 ⟨tok106, (List.forall_mem_cons.2 ⟨tok115, (List.forall_mem_cons.2 ⟨tok143, (List.forall_mem_cons.2 ⟨tok147, (List.forall_mem_cons.2 ⟨tok149, (List.forall_mem_cons.2 ⟨tok150, (List.forall_mem_cons.2 ⟨tok151, (List.forall_mem_cons.2 ⟨tok157, (List.forall_mem_cons.2 ⟨tok161, (List.forall_mem_cons.2 ⟨tok164, (List.forall_mem_cons.2 ⟨tok180, (List.forall_mem_cons.2 ⟨tok184, (List.forall_mem_cons.2 ⟨tok186, (List.forall_mem_cons.2 ⟨tok191, (List.forall_mem_cons.2 ⟨tok196, (List.forall_mem_cons.2 ⟨tok200, (List.forall_mem_cons.2 ⟨tok201, (List.forall_mem_cons.2 ⟨tok204, (List.forall_mem_cons.2 ⟨tok205, (List.forall_mem_cons.2 ⟨tok206, (List.forall_mem_cons.2 ⟨tok207, (List.forall_mem_cons.2 ⟨tok208, (List.forall_mem_cons.2 ⟨tok210, (List.forall_mem_cons.2 ⟨tok211, (List.forall_mem_cons.2 ⟨tok213, (List.forall_mem_cons.2 ⟨tok214, (List.forall_mem_cons.2 ⟨tok215, (fun _ h => by cases h)⟩)⟩)⟩)⟩)⟩)⟩)⟩)⟩)⟩)⟩)⟩)⟩)⟩)⟩)⟩)⟩)⟩)⟩)⟩)⟩)⟩)⟩)⟩)⟩)⟩)⟩)⟩)⟩)⟩)⟩)⟩)⟩)⟩)⟩)⟩)⟩)⟩)⟩)⟩)⟩)⟩)⟩)⟩)⟩)⟩)⟩)⟩)⟩)⟩)⟩)⟩)⟩)⟩)⟩)⟩)⟩)⟩)⟩)⟩)
def ti : Nat → TI := tiOf TL
theorem ti_ok : TIok Try.prog ti := tiOf_ok tl_ok
end Go.Proofs.Ytegcdnjihnpolaa
