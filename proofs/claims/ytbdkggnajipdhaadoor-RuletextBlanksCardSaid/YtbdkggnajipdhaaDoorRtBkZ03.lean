/- Texts laid one behind the other: Types, Ord, Own, Ord2, Ord3, Kep, DeckSpec. Each says at its head what it proves. -/
import Derived.Test.YtbdkggnajipdhaaDoorRtBkZ02
import Derived.OrdersHeld
set_option linter.unusedSimpArgs false
/- Closed facts on the types and the functions of this translation, laid by program (wip/types.py). -/
namespace Go.Proofs.YtbdkggnajipdhaaDoor
theorem TY0 : okT Tryd.prog 1 = true ∧ oneB Tryd.prog 1 = true ∧ okT Tryd.prog 2 = true ∧ ikT Tryd.prog 2 = some .i64 ∧ oneB Tryd.prog 2 = true ∧ szOf Tryd.prog 2 = 1 ∧ zeroV Tryd.prog 2 = some (.int .i64 0) ∧ okT Tryd.prog 3 = true ∧ ikT Tryd.prog 3 = some .i64 ∧ oneB Tryd.prog 3 = true ∧ szOf Tryd.prog 3 = 1 ∧ zeroV Tryd.prog 3 = some (.int .i64 0) ∧ okT Tryd.prog 4 = true ∧ oneB Tryd.prog 4 = true ∧ szOf Tryd.prog 4 = 1 ∧ zeroV Tryd.prog 4 = some (.bool false) ∧ booB Tryd.prog 4 = true ∧ okT Tryd.prog 5 = true ∧ ikT Tryd.prog 5 = some .u8 ∧ oneB Tryd.prog 5 = true ∧ szOf Tryd.prog 5 = 1 ∧ zeroV Tryd.prog 5 = some (.int .u8 0) ∧ okT Tryd.prog 6 = true ∧ ikT Tryd.prog 6 = some .u8 ∧ oneB Tryd.prog 6 = true ∧ szOf Tryd.prog 6 = 1 ∧ zeroV Tryd.prog 6 = some (.int .u8 0) ∧ okT Tryd.prog 7 = true ∧ oneB Tryd.prog 7 = false ∧ szOf Tryd.prog 7 = 4 ∧ zeroV Tryd.prog 7 = some (.agg #[.int .i64 0, .int .i64 0, .bool false, .int .u8 0]) ∧ aggN Tryd.prog 7 = some 4 ∧ plT Tryd.prog 7 = some [(0, 1), (1, 1), (2, 1), (3, 1)] ∧ fOff Tryd.prog 7 0 = some 0 ∧ fOff Tryd.prog 7 1 = some 1 ∧ fOff Tryd.prog 7 2 = some 2 ∧ fOff Tryd.prog 7 3 = some 3 ∧ okT Tryd.prog 8 = true ∧ oneB Tryd.prog 8 = false ∧ szOf Tryd.prog 8 = 4 ∧ True := ⟨by kernel_rfl, by kernel_rfl, by kernel_rfl, by kernel_rfl, by kernel_rfl, by kernel_rfl, by kernel_rfl, by kernel_rfl, by kernel_rfl, by kernel_rfl, by kernel_rfl, by kernel_rfl, by kernel_rfl, by kernel_rfl, by kernel_rfl, by kernel_rfl, by kernel_rfl, by kernel_rfl, by kernel_rfl, by kernel_rfl, by kernel_rfl, by kernel_rfl, by kernel_rfl, by kernel_rfl, by kernel_rfl, by kernel_rfl, by kernel_rfl, by kernel_rfl, by kernel_rfl, by kernel_rfl, by kernel_rfl, by kernel_rfl, by kernel_rfl, by kernel_rfl, by kernel_rfl, by kernel_rfl, by kernel_rfl, by kernel_rfl, by kernel_rfl, by kernel_rfl, trivial⟩
theorem TY1 : zeroV Tryd.prog 8 = some (.agg #[.int .i64 0, .int .i64 0, .bool false, .int .u8 0]) ∧ aggN Tryd.prog 8 = some 4 ∧ plT Tryd.prog 8 = some [(0, 1), (1, 1), (2, 1), (3, 1)] ∧ fOff Tryd.prog 8 0 = some 0 ∧ fOff Tryd.prog 8 1 = some 1 ∧ fOff Tryd.prog 8 2 = some 2 ∧ fOff Tryd.prog 8 3 = some 3 ∧ okT Tryd.prog 9 = true ∧ oneB Tryd.prog 9 = true ∧ szOf Tryd.prog 9 = 1 ∧ zeroV Tryd.prog 9 = some (.string .empty) ∧ strB Tryd.prog 9 = true ∧ okT Tryd.prog 10 = true ∧ oneB Tryd.prog 10 = true ∧ szOf Tryd.prog 10 = 1 ∧ zeroV Tryd.prog 10 = some (.string .empty) ∧ strB Tryd.prog 10 = true ∧ okT Tryd.prog 11 = true ∧ oneB Tryd.prog 11 = true ∧ szOf Tryd.prog 11 = 1 ∧ zeroV Tryd.prog 11 = some (.string .empty) ∧ strB Tryd.prog 11 = true ∧ okT Tryd.prog 12 = true ∧ ikT Tryd.prog 12 = some .u64 ∧ oneB Tryd.prog 12 = true ∧ szOf Tryd.prog 12 = 1 ∧ zeroV Tryd.prog 12 = some (.int .u64 0) ∧ okT Tryd.prog 13 = true ∧ oneB Tryd.prog 13 = false ∧ szOf Tryd.prog 13 = 2 ∧ zeroV Tryd.prog 13 = some (.agg #[.string .empty, .int .u64 0]) ∧ aggN Tryd.prog 13 = some 2 ∧ plT Tryd.prog 13 = some [(0, 1), (1, 1)] ∧ fOff Tryd.prog 13 0 = some 0 ∧ fOff Tryd.prog 13 1 = some 1 ∧ okT Tryd.prog 14 = true ∧ oneB Tryd.prog 14 = false ∧ szOf Tryd.prog 14 = 2 ∧ zeroV Tryd.prog 14 = some (.agg #[.string .empty, .int .u64 0]) ∧ aggN Tryd.prog 14 = some 2 ∧ True := ⟨by kernel_rfl, by kernel_rfl, by kernel_rfl, by kernel_rfl, by kernel_rfl, by kernel_rfl, by kernel_rfl, by kernel_rfl, by kernel_rfl, by kernel_rfl, by kernel_rfl, by kernel_rfl, by kernel_rfl, by kernel_rfl, by kernel_rfl, by kernel_rfl, by kernel_rfl, by kernel_rfl, by kernel_rfl, by kernel_rfl, by kernel_rfl, by kernel_rfl, by kernel_rfl, by kernel_rfl, by kernel_rfl, by kernel_rfl, by kernel_rfl, by kernel_rfl, by kernel_rfl, by kernel_rfl, by kernel_rfl, by kernel_rfl, by kernel_rfl, by kernel_rfl, by kernel_rfl, by kernel_rfl, by kernel_rfl, by kernel_rfl, by kernel_rfl, by kernel_rfl, trivial⟩
theorem TY2 : plT Tryd.prog 14 = some [(0, 1), (1, 1)] ∧ fOff Tryd.prog 14 0 = some 0 ∧ fOff Tryd.prog 14 1 = some 1 ∧ okT Tryd.prog 15 = true ∧ oneB Tryd.prog 15 = true ∧ szOf Tryd.prog 15 = 1 ∧ zeroV Tryd.prog 15 = some (.pointer none) ∧ ptB Tryd.prog 15 = true ∧ okT Tryd.prog 16 = true ∧ oneB Tryd.prog 16 = true ∧ szOf Tryd.prog 16 = 1 ∧ zeroV Tryd.prog 16 = some (.pointer none) ∧ ptB Tryd.prog 16 = true ∧ okT Tryd.prog 17 = true ∧ oneB Tryd.prog 17 = true ∧ szOf Tryd.prog 17 = 1 ∧ zeroV Tryd.prog 17 = some (.pointer none) ∧ ptB Tryd.prog 17 = true ∧ okT Tryd.prog 18 = true ∧ oneB Tryd.prog 18 = false ∧ szOf Tryd.prog 18 = 1 ∧ zeroV Tryd.prog 18 = some (.agg #[.pointer none]) ∧ aggN Tryd.prog 18 = some 1 ∧ plT Tryd.prog 18 = some [(0, 1)] ∧ fOff Tryd.prog 18 0 = some 0 ∧ okT Tryd.prog 19 = true ∧ oneB Tryd.prog 19 = false ∧ szOf Tryd.prog 19 = 1 ∧ zeroV Tryd.prog 19 = some (.agg #[.pointer none]) ∧ aggN Tryd.prog 19 = some 1 ∧ plT Tryd.prog 19 = some [(0, 1)] ∧ fOff Tryd.prog 19 0 = some 0 ∧ okT Tryd.prog 20 = true ∧ oneB Tryd.prog 20 = true ∧ okT Tryd.prog 21 = true ∧ ikT Tryd.prog 21 = some .i32 ∧ oneB Tryd.prog 21 = true ∧ szOf Tryd.prog 21 = 1 ∧ zeroV Tryd.prog 21 = some (.int .i32 0) ∧ okT Tryd.prog 22 = true ∧ True := ⟨by kernel_rfl, by kernel_rfl, by kernel_rfl, by kernel_rfl, by kernel_rfl, by kernel_rfl, by kernel_rfl, by kernel_rfl, by kernel_rfl, by kernel_rfl, by kernel_rfl, by kernel_rfl, by kernel_rfl, by kernel_rfl, by kernel_rfl, by kernel_rfl, by kernel_rfl, by kernel_rfl, by kernel_rfl, by kernel_rfl, by kernel_rfl, by kernel_rfl, by kernel_rfl, by kernel_rfl, by kernel_rfl, by kernel_rfl, by kernel_rfl, by kernel_rfl, by kernel_rfl, by kernel_rfl, by kernel_rfl, by kernel_rfl, by kernel_rfl, by kernel_rfl, by kernel_rfl, by kernel_rfl, by kernel_rfl, by kernel_rfl, by kernel_rfl, by kernel_rfl, trivial⟩
theorem TY3 : oneB Tryd.prog 22 = true ∧ szOf Tryd.prog 22 = 1 ∧ zeroV Tryd.prog 22 = some (.slice none 0 0) ∧ slcB Tryd.prog 22 = true ∧ eSz Tryd.prog 22 = some 6 ∧ sliceI Tryd.prog 22 = some (43, 6, 88) ∧ okT Tryd.prog 23 = true ∧ oneB Tryd.prog 23 = true ∧ szOf Tryd.prog 23 = 1 ∧ zeroV Tryd.prog 23 = some (.slice none 0 0) ∧ slcB Tryd.prog 23 = true ∧ eSz Tryd.prog 23 = some 6 ∧ sliceI Tryd.prog 23 = some (45, 6, 48) ∧ okT Tryd.prog 24 = true ∧ oneB Tryd.prog 24 = false ∧ szOf Tryd.prog 24 = 22 ∧ zeroV Tryd.prog 24 = some (.agg #[.string .empty, .int .i64 0, .int .i64 0, .int .i64 0, .int .i64 0, .int .i64 0, .int .i64 0, .int .i64 0, .int .i64 0, .int .i64 0, .int .i64 0, .int .i64 0, .int .i64 0, .int .i64 0, .int .i64 0, .int .i64 0, .int .i64 0, .int .i64 0, .int .i64 0, .int .i64 0, .slice none 0 0, .slice none 0 0]) ∧ aggN Tryd.prog 24 = some 22 ∧ plT Tryd.prog 24 = some [(0, 1), (1, 1), (2, 1), (3, 1), (4, 1), (5, 1), (6, 1), (7, 1), (8, 1), (9, 1), (10, 1), (11, 1), (12, 1), (13, 1), (14, 1), (15, 1), (16, 1), (17, 1), (18, 1), (19, 1), (20, 1), (21, 1)] ∧ fOff Tryd.prog 24 0 = some 0 ∧ fOff Tryd.prog 24 1 = some 1 ∧ fOff Tryd.prog 24 2 = some 2 ∧ fOff Tryd.prog 24 3 = some 3 ∧ fOff Tryd.prog 24 4 = some 4 ∧ fOff Tryd.prog 24 5 = some 5 ∧ fOff Tryd.prog 24 6 = some 6 ∧ fOff Tryd.prog 24 7 = some 7 ∧ fOff Tryd.prog 24 8 = some 8 ∧ fOff Tryd.prog 24 9 = some 9 ∧ fOff Tryd.prog 24 10 = some 10 ∧ fOff Tryd.prog 24 11 = some 11 ∧ fOff Tryd.prog 24 12 = some 12 ∧ fOff Tryd.prog 24 13 = some 13 ∧ fOff Tryd.prog 24 14 = some 14 ∧ fOff Tryd.prog 24 15 = some 15 ∧ fOff Tryd.prog 24 16 = some 16 ∧ fOff Tryd.prog 24 17 = some 17 ∧ fOff Tryd.prog 24 18 = some 18 ∧ fOff Tryd.prog 24 19 = some 19 ∧ fOff Tryd.prog 24 20 = some 20 ∧ True := ⟨by kernel_rfl, by kernel_rfl, by kernel_rfl, by kernel_rfl, by kernel_rfl, by kernel_rfl, by kernel_rfl, by kernel_rfl, by kernel_rfl, by kernel_rfl, by kernel_rfl, by kernel_rfl, by kernel_rfl, by kernel_rfl, by kernel_rfl, by kernel_rfl, by kernel_rfl, by kernel_rfl, by kernel_rfl, by kernel_rfl, by kernel_rfl, by kernel_rfl, by kernel_rfl, by kernel_rfl, by kernel_rfl, by kernel_rfl, by kernel_rfl, by kernel_rfl, by kernel_rfl, by kernel_rfl, by kernel_rfl, by kernel_rfl, by kernel_rfl, by kernel_rfl, by kernel_rfl, by kernel_rfl, by kernel_rfl, by kernel_rfl, by kernel_rfl, by kernel_rfl, trivial⟩
theorem TY4 : fOff Tryd.prog 24 21 = some 21 ∧ okT Tryd.prog 25 = true ∧ oneB Tryd.prog 25 = false ∧ szOf Tryd.prog 25 = 22 ∧ zeroV Tryd.prog 25 = some (.agg #[.string .empty, .int .i64 0, .int .i64 0, .int .i64 0, .int .i64 0, .int .i64 0, .int .i64 0, .int .i64 0, .int .i64 0, .int .i64 0, .int .i64 0, .int .i64 0, .int .i64 0, .int .i64 0, .int .i64 0, .int .i64 0, .int .i64 0, .int .i64 0, .int .i64 0, .int .i64 0, .slice none 0 0, .slice none 0 0]) ∧ aggN Tryd.prog 25 = some 22 ∧ plT Tryd.prog 25 = some [(0, 1), (1, 1), (2, 1), (3, 1), (4, 1), (5, 1), (6, 1), (7, 1), (8, 1), (9, 1), (10, 1), (11, 1), (12, 1), (13, 1), (14, 1), (15, 1), (16, 1), (17, 1), (18, 1), (19, 1), (20, 1), (21, 1)] ∧ fOff Tryd.prog 25 0 = some 0 ∧ fOff Tryd.prog 25 1 = some 1 ∧ fOff Tryd.prog 25 2 = some 2 ∧ fOff Tryd.prog 25 3 = some 3 ∧ fOff Tryd.prog 25 4 = some 4 ∧ fOff Tryd.prog 25 5 = some 5 ∧ fOff Tryd.prog 25 6 = some 6 ∧ fOff Tryd.prog 25 7 = some 7 ∧ fOff Tryd.prog 25 8 = some 8 ∧ fOff Tryd.prog 25 9 = some 9 ∧ fOff Tryd.prog 25 10 = some 10 ∧ fOff Tryd.prog 25 11 = some 11 ∧ fOff Tryd.prog 25 12 = some 12 ∧ fOff Tryd.prog 25 13 = some 13 ∧ fOff Tryd.prog 25 14 = some 14 ∧ fOff Tryd.prog 25 15 = some 15 ∧ fOff Tryd.prog 25 16 = some 16 ∧ fOff Tryd.prog 25 17 = some 17 ∧ fOff Tryd.prog 25 18 = some 18 ∧ fOff Tryd.prog 25 19 = some 19 ∧ fOff Tryd.prog 25 20 = some 20 ∧ fOff Tryd.prog 25 21 = some 21 ∧ okT Tryd.prog 26 = true ∧ oneB Tryd.prog 26 = true ∧ okT Tryd.prog 27 = true ∧ oneB Tryd.prog 27 = true ∧ okT Tryd.prog 28 = true ∧ oneB Tryd.prog 28 = true ∧ okT Tryd.prog 29 = true ∧ ikT Tryd.prog 29 = some .i64 ∧ oneB Tryd.prog 29 = true ∧ szOf Tryd.prog 29 = 1 ∧ zeroV Tryd.prog 29 = some (.int .i64 0) ∧ True := ⟨by kernel_rfl, by kernel_rfl, by kernel_rfl, by kernel_rfl, by kernel_rfl, by kernel_rfl, by kernel_rfl, by kernel_rfl, by kernel_rfl, by kernel_rfl, by kernel_rfl, by kernel_rfl, by kernel_rfl, by kernel_rfl, by kernel_rfl, by kernel_rfl, by kernel_rfl, by kernel_rfl, by kernel_rfl, by kernel_rfl, by kernel_rfl, by kernel_rfl, by kernel_rfl, by kernel_rfl, by kernel_rfl, by kernel_rfl, by kernel_rfl, by kernel_rfl, by kernel_rfl, by kernel_rfl, by kernel_rfl, by kernel_rfl, by kernel_rfl, by kernel_rfl, by kernel_rfl, by kernel_rfl, by kernel_rfl, by kernel_rfl, by kernel_rfl, by kernel_rfl, trivial⟩
theorem TY5 : okT Tryd.prog 31 = true ∧ oneB Tryd.prog 31 = true ∧ okT Tryd.prog 32 = true ∧ oneB Tryd.prog 32 = true ∧ okT Tryd.prog 33 = true ∧ oneB Tryd.prog 33 = true ∧ szOf Tryd.prog 33 = 1 ∧ zeroV Tryd.prog 33 = some (.slice none 0 0) ∧ slcB Tryd.prog 33 = true ∧ eSz Tryd.prog 33 = some 4 ∧ sliceI Tryd.prog 33 = some (38, 4, 40) ∧ okT Tryd.prog 35 = true ∧ oneB Tryd.prog 35 = true ∧ okT Tryd.prog 36 = true ∧ oneB Tryd.prog 36 = true ∧ szOf Tryd.prog 36 = 1 ∧ zeroV Tryd.prog 36 = some (.slice none 0 0) ∧ slcB Tryd.prog 36 = true ∧ eSz Tryd.prog 36 = some 1 ∧ sliceI Tryd.prog 36 = some (9, 1, 16) ∧ okT Tryd.prog 37 = true ∧ oneB Tryd.prog 37 = false ∧ szOf Tryd.prog 37 = 4 ∧ zeroV Tryd.prog 37 = some (.agg #[.int .i64 0, .int .i64 0, .int .i64 0, .string .empty]) ∧ aggN Tryd.prog 37 = some 4 ∧ plT Tryd.prog 37 = some [(0, 1), (1, 1), (2, 1), (3, 1)] ∧ fOff Tryd.prog 37 0 = some 0 ∧ fOff Tryd.prog 37 1 = some 1 ∧ fOff Tryd.prog 37 2 = some 2 ∧ fOff Tryd.prog 37 3 = some 3 ∧ okT Tryd.prog 38 = true ∧ oneB Tryd.prog 38 = false ∧ szOf Tryd.prog 38 = 4 ∧ zeroV Tryd.prog 38 = some (.agg #[.int .i64 0, .int .i64 0, .int .i64 0, .string .empty]) ∧ aggN Tryd.prog 38 = some 4 ∧ plT Tryd.prog 38 = some [(0, 1), (1, 1), (2, 1), (3, 1)] ∧ fOff Tryd.prog 38 0 = some 0 ∧ fOff Tryd.prog 38 1 = some 1 ∧ fOff Tryd.prog 38 2 = some 2 ∧ fOff Tryd.prog 38 3 = some 3 ∧ True := ⟨by kernel_rfl, by kernel_rfl, by kernel_rfl, by kernel_rfl, by kernel_rfl, by kernel_rfl, by kernel_rfl, by kernel_rfl, by kernel_rfl, by kernel_rfl, by kernel_rfl, by kernel_rfl, by kernel_rfl, by kernel_rfl, by kernel_rfl, by kernel_rfl, by kernel_rfl, by kernel_rfl, by kernel_rfl, by kernel_rfl, by kernel_rfl, by kernel_rfl, by kernel_rfl, by kernel_rfl, by kernel_rfl, by kernel_rfl, by kernel_rfl, by kernel_rfl, by kernel_rfl, by kernel_rfl, by kernel_rfl, by kernel_rfl, by kernel_rfl, by kernel_rfl, by kernel_rfl, by kernel_rfl, by kernel_rfl, by kernel_rfl, by kernel_rfl, by kernel_rfl, trivial⟩
theorem TY6 : okT Tryd.prog 39 = true ∧ oneB Tryd.prog 39 = true ∧ okT Tryd.prog 40 = true ∧ oneB Tryd.prog 40 = true ∧ okT Tryd.prog 41 = true ∧ oneB Tryd.prog 41 = true ∧ szOf Tryd.prog 41 = 1 ∧ zeroV Tryd.prog 41 = some (.slice none 0 0) ∧ slcB Tryd.prog 41 = true ∧ eSz Tryd.prog 41 = some 1 ∧ sliceI Tryd.prog 41 = some (3, 1, 8) ∧ okT Tryd.prog 42 = true ∧ oneB Tryd.prog 42 = false ∧ szOf Tryd.prog 42 = 6 ∧ zeroV Tryd.prog 42 = some (.agg #[.string .empty, .int .i64 0, .int .i64 0, .slice none 0 0, .int .i64 0, .slice none 0 0]) ∧ aggN Tryd.prog 42 = some 6 ∧ plT Tryd.prog 42 = some [(0, 1), (1, 1), (2, 1), (3, 1), (4, 1), (5, 1)] ∧ fOff Tryd.prog 42 0 = some 0 ∧ fOff Tryd.prog 42 1 = some 1 ∧ fOff Tryd.prog 42 2 = some 2 ∧ fOff Tryd.prog 42 3 = some 3 ∧ fOff Tryd.prog 42 4 = some 4 ∧ fOff Tryd.prog 42 5 = some 5 ∧ okT Tryd.prog 43 = true ∧ oneB Tryd.prog 43 = false ∧ szOf Tryd.prog 43 = 6 ∧ zeroV Tryd.prog 43 = some (.agg #[.string .empty, .int .i64 0, .int .i64 0, .slice none 0 0, .int .i64 0, .slice none 0 0]) ∧ aggN Tryd.prog 43 = some 6 ∧ plT Tryd.prog 43 = some [(0, 1), (1, 1), (2, 1), (3, 1), (4, 1), (5, 1)] ∧ fOff Tryd.prog 43 0 = some 0 ∧ fOff Tryd.prog 43 1 = some 1 ∧ fOff Tryd.prog 43 2 = some 2 ∧ fOff Tryd.prog 43 3 = some 3 ∧ fOff Tryd.prog 43 4 = some 4 ∧ fOff Tryd.prog 43 5 = some 5 ∧ okT Tryd.prog 44 = true ∧ oneB Tryd.prog 44 = false ∧ szOf Tryd.prog 44 = 6 ∧ zeroV Tryd.prog 44 = some (.agg #[.int .i64 0, .int .i64 0, .int .i64 0, .int .i64 0, .int .i64 0, .int .i64 0]) ∧ aggN Tryd.prog 44 = some 6 ∧ True := ⟨by kernel_rfl, by kernel_rfl, by kernel_rfl, by kernel_rfl, by kernel_rfl, by kernel_rfl, by kernel_rfl, by kernel_rfl, by kernel_rfl, by kernel_rfl, by kernel_rfl, by kernel_rfl, by kernel_rfl, by kernel_rfl, by kernel_rfl, by kernel_rfl, by kernel_rfl, by kernel_rfl, by kernel_rfl, by kernel_rfl, by kernel_rfl, by kernel_rfl, by kernel_rfl, by kernel_rfl, by kernel_rfl, by kernel_rfl, by kernel_rfl, by kernel_rfl, by kernel_rfl, by kernel_rfl, by kernel_rfl, by kernel_rfl, by kernel_rfl, by kernel_rfl, by kernel_rfl, by kernel_rfl, by kernel_rfl, by kernel_rfl, by kernel_rfl, by kernel_rfl, trivial⟩
theorem TY7 : plT Tryd.prog 44 = some [(0, 1), (1, 1), (2, 1), (3, 1), (4, 1), (5, 1)] ∧ fOff Tryd.prog 44 0 = some 0 ∧ fOff Tryd.prog 44 1 = some 1 ∧ fOff Tryd.prog 44 2 = some 2 ∧ fOff Tryd.prog 44 3 = some 3 ∧ fOff Tryd.prog 44 4 = some 4 ∧ fOff Tryd.prog 44 5 = some 5 ∧ okT Tryd.prog 45 = true ∧ oneB Tryd.prog 45 = false ∧ szOf Tryd.prog 45 = 6 ∧ zeroV Tryd.prog 45 = some (.agg #[.int .i64 0, .int .i64 0, .int .i64 0, .int .i64 0, .int .i64 0, .int .i64 0]) ∧ aggN Tryd.prog 45 = some 6 ∧ plT Tryd.prog 45 = some [(0, 1), (1, 1), (2, 1), (3, 1), (4, 1), (5, 1)] ∧ fOff Tryd.prog 45 0 = some 0 ∧ fOff Tryd.prog 45 1 = some 1 ∧ fOff Tryd.prog 45 2 = some 2 ∧ fOff Tryd.prog 45 3 = some 3 ∧ fOff Tryd.prog 45 4 = some 4 ∧ fOff Tryd.prog 45 5 = some 5 ∧ okT Tryd.prog 46 = true ∧ oneB Tryd.prog 46 = true ∧ okT Tryd.prog 47 = true ∧ oneB Tryd.prog 47 = true ∧ szOf Tryd.prog 47 = 1 ∧ zeroV Tryd.prog 47 = some (.pointer none) ∧ ptB Tryd.prog 47 = true ∧ okT Tryd.prog 48 = true ∧ oneB Tryd.prog 48 = true ∧ szOf Tryd.prog 48 = 1 ∧ zeroV Tryd.prog 48 = some (.slice none 0 0) ∧ slcB Tryd.prog 48 = true ∧ eSz Tryd.prog 48 = some 1 ∧ sliceI Tryd.prog 48 = some (5, 1, 1) ∧ okT Tryd.prog 49 = true ∧ oneB Tryd.prog 49 = false ∧ szOf Tryd.prog 49 = 2 ∧ zeroV Tryd.prog 49 = some (.agg #[.pointer none, .slice none 0 0]) ∧ aggN Tryd.prog 49 = some 2 ∧ plT Tryd.prog 49 = some [(0, 1), (1, 1)] ∧ fOff Tryd.prog 49 0 = some 0 ∧ True := ⟨by kernel_rfl, by kernel_rfl, by kernel_rfl, by kernel_rfl, by kernel_rfl, by kernel_rfl, by kernel_rfl, by kernel_rfl, by kernel_rfl, by kernel_rfl, by kernel_rfl, by kernel_rfl, by kernel_rfl, by kernel_rfl, by kernel_rfl, by kernel_rfl, by kernel_rfl, by kernel_rfl, by kernel_rfl, by kernel_rfl, by kernel_rfl, by kernel_rfl, by kernel_rfl, by kernel_rfl, by kernel_rfl, by kernel_rfl, by kernel_rfl, by kernel_rfl, by kernel_rfl, by kernel_rfl, by kernel_rfl, by kernel_rfl, by kernel_rfl, by kernel_rfl, by kernel_rfl, by kernel_rfl, by kernel_rfl, by kernel_rfl, by kernel_rfl, by kernel_rfl, trivial⟩
theorem TY8 : fOff Tryd.prog 49 1 = some 1 ∧ okT Tryd.prog 50 = true ∧ oneB Tryd.prog 50 = false ∧ szOf Tryd.prog 50 = 2 ∧ zeroV Tryd.prog 50 = some (.agg #[.pointer none, .slice none 0 0]) ∧ aggN Tryd.prog 50 = some 2 ∧ plT Tryd.prog 50 = some [(0, 1), (1, 1)] ∧ fOff Tryd.prog 50 0 = some 0 ∧ fOff Tryd.prog 50 1 = some 1 ∧ okT Tryd.prog 51 = true ∧ oneB Tryd.prog 51 = false ∧ szOf Tryd.prog 51 = 3 ∧ zeroV Tryd.prog 51 = some (.agg #[.pointer none, .slice none 0 0, .bool false]) ∧ aggN Tryd.prog 51 = some 3 ∧ plT Tryd.prog 51 = some [(0, 2), (2, 1)] ∧ fOff Tryd.prog 51 0 = some 0 ∧ fOff Tryd.prog 51 1 = some 2 ∧ okT Tryd.prog 52 = true ∧ oneB Tryd.prog 52 = false ∧ szOf Tryd.prog 52 = 3 ∧ zeroV Tryd.prog 52 = some (.agg #[.pointer none, .slice none 0 0, .bool false]) ∧ aggN Tryd.prog 52 = some 3 ∧ plT Tryd.prog 52 = some [(0, 2), (2, 1)] ∧ fOff Tryd.prog 52 0 = some 0 ∧ fOff Tryd.prog 52 1 = some 2 ∧ okT Tryd.prog 53 = true ∧ oneB Tryd.prog 53 = true ∧ okT Tryd.prog 54 = true ∧ oneB Tryd.prog 54 = true ∧ okT Tryd.prog 56 = true ∧ oneB Tryd.prog 56 = true ∧ okT Tryd.prog 57 = true ∧ oneB Tryd.prog 57 = true ∧ okT Tryd.prog 58 = true ∧ oneB Tryd.prog 58 = true ∧ okT Tryd.prog 59 = true ∧ oneB Tryd.prog 59 = true ∧ okT Tryd.prog 60 = true ∧ oneB Tryd.prog 60 = true ∧ okT Tryd.prog 61 = true ∧ True := ⟨by kernel_rfl, by kernel_rfl, by kernel_rfl, by kernel_rfl, by kernel_rfl, by kernel_rfl, by kernel_rfl, by kernel_rfl, by kernel_rfl, by kernel_rfl, by kernel_rfl, by kernel_rfl, by kernel_rfl, by kernel_rfl, by kernel_rfl, by kernel_rfl, by kernel_rfl, by kernel_rfl, by kernel_rfl, by kernel_rfl, by kernel_rfl, by kernel_rfl, by kernel_rfl, by kernel_rfl, by kernel_rfl, by kernel_rfl, by kernel_rfl, by kernel_rfl, by kernel_rfl, by kernel_rfl, by kernel_rfl, by kernel_rfl, by kernel_rfl, by kernel_rfl, by kernel_rfl, by kernel_rfl, by kernel_rfl, by kernel_rfl, by kernel_rfl, by kernel_rfl, trivial⟩
theorem TY9 : oneB Tryd.prog 61 = true ∧ okT Tryd.prog 62 = true ∧ oneB Tryd.prog 62 = true ∧ okT Tryd.prog 63 = true ∧ oneB Tryd.prog 63 = true ∧ okT Tryd.prog 64 = true ∧ oneB Tryd.prog 64 = true ∧ okT Tryd.prog 65 = true ∧ oneB Tryd.prog 65 = true ∧ okT Tryd.prog 66 = true ∧ oneB Tryd.prog 66 = false ∧ szOf Tryd.prog 66 = 2 ∧ zeroV Tryd.prog 66 = some (.agg #[.int .i64 0, .int .i64 0]) ∧ aggN Tryd.prog 66 = some 2 ∧ plT Tryd.prog 66 = some [(0, 1), (1, 1)] ∧ fOff Tryd.prog 66 0 = some 0 ∧ fOff Tryd.prog 66 1 = some 1 ∧ okT Tryd.prog 67 = true ∧ oneB Tryd.prog 67 = false ∧ szOf Tryd.prog 67 = 2 ∧ zeroV Tryd.prog 67 = some (.agg #[.int .i64 0, .int .i64 0]) ∧ aggN Tryd.prog 67 = some 2 ∧ plT Tryd.prog 67 = some [(0, 1), (1, 1)] ∧ fOff Tryd.prog 67 0 = some 0 ∧ fOff Tryd.prog 67 1 = some 1 ∧ okT Tryd.prog 69 = true ∧ oneB Tryd.prog 69 = true ∧ szOf Tryd.prog 69 = 1 ∧ zeroV Tryd.prog 69 = some (.map none) ∧ mapZ Tryd.prog 69 = some (.bool false) ∧ okT Tryd.prog 70 = true ∧ oneB Tryd.prog 70 = false ∧ szOf Tryd.prog 70 = 25 ∧ zeroV Tryd.prog 70 = some (.agg #[.slice none 0 0, .int .i64 0, .map none, .string .empty, .int .i64 0, .int .i64 0, .int .i64 0, .int .i64 0, .int .i64 0, .int .i64 0, .int .i64 0, .int .i64 0, .int .i64 0, .int .i64 0, .int .i64 0, .int .i64 0, .int .i64 0, .int .i64 0, .int .i64 0, .int .i64 0, .int .i64 0, .int .i64 0, .int .i64 0, .slice none 0 0, .slice none 0 0]) ∧ aggN Tryd.prog 70 = some 25 ∧ plT Tryd.prog 70 = some [(0, 1), (1, 1), (2, 1), (3, 22)] ∧ fOff Tryd.prog 70 0 = some 0 ∧ fOff Tryd.prog 70 1 = some 1 ∧ fOff Tryd.prog 70 2 = some 2 ∧ fOff Tryd.prog 70 3 = some 3 ∧ True := ⟨by kernel_rfl, by kernel_rfl, by kernel_rfl, by kernel_rfl, by kernel_rfl, by kernel_rfl, by kernel_rfl, by kernel_rfl, by kernel_rfl, by kernel_rfl, by kernel_rfl, by kernel_rfl, by kernel_rfl, by kernel_rfl, by kernel_rfl, by kernel_rfl, by kernel_rfl, by kernel_rfl, by kernel_rfl, by kernel_rfl, by kernel_rfl, by kernel_rfl, by kernel_rfl, by kernel_rfl, by kernel_rfl, by kernel_rfl, by kernel_rfl, by kernel_rfl, by kernel_rfl, by kernel_rfl, by kernel_rfl, by kernel_rfl, by kernel_rfl, by kernel_rfl, by kernel_rfl, by kernel_rfl, by kernel_rfl, by kernel_rfl, by kernel_rfl, by kernel_rfl, trivial⟩
theorem TY10 : okT Tryd.prog 71 = true ∧ oneB Tryd.prog 71 = false ∧ szOf Tryd.prog 71 = 25 ∧ zeroV Tryd.prog 71 = some (.agg #[.slice none 0 0, .int .i64 0, .map none, .string .empty, .int .i64 0, .int .i64 0, .int .i64 0, .int .i64 0, .int .i64 0, .int .i64 0, .int .i64 0, .int .i64 0, .int .i64 0, .int .i64 0, .int .i64 0, .int .i64 0, .int .i64 0, .int .i64 0, .int .i64 0, .int .i64 0, .int .i64 0, .int .i64 0, .int .i64 0, .slice none 0 0, .slice none 0 0]) ∧ aggN Tryd.prog 71 = some 25 ∧ plT Tryd.prog 71 = some [(0, 1), (1, 1), (2, 1), (3, 22)] ∧ fOff Tryd.prog 71 0 = some 0 ∧ fOff Tryd.prog 71 1 = some 1 ∧ fOff Tryd.prog 71 2 = some 2 ∧ fOff Tryd.prog 71 3 = some 3 ∧ okT Tryd.prog 72 = true ∧ oneB Tryd.prog 72 = true ∧ okT Tryd.prog 74 = true ∧ oneB Tryd.prog 74 = true ∧ okT Tryd.prog 75 = true ∧ oneB Tryd.prog 75 = true ∧ okT Tryd.prog 76 = true ∧ oneB Tryd.prog 76 = true ∧ szOf Tryd.prog 76 = 1 ∧ zeroV Tryd.prog 76 = some (.pointer none) ∧ ptB Tryd.prog 76 = true ∧ okT Tryd.prog 77 = true ∧ oneB Tryd.prog 77 = true ∧ okT Tryd.prog 78 = true ∧ oneB Tryd.prog 78 = true ∧ okT Tryd.prog 79 = true ∧ zeroV Tryd.prog 79 = some (.agg #[.string .empty, .string .empty, .string .empty, .string .empty, .string .empty, .string .empty, .string .empty]) ∧ okT Tryd.prog 80 = true ∧ oneB Tryd.prog 80 = true ∧ okT Tryd.prog 81 = true ∧ oneB Tryd.prog 81 = true ∧ szOf Tryd.prog 81 = 1 ∧ zeroV Tryd.prog 81 = some (.pointer none) ∧ ptB Tryd.prog 81 = true ∧ okT Tryd.prog 82 = true ∧ oneB Tryd.prog 82 = true ∧ okT Tryd.prog 83 = true ∧ oneB Tryd.prog 83 = true ∧ okT Tryd.prog 84 = true ∧ oneB Tryd.prog 84 = true ∧ True := ⟨by kernel_rfl, by kernel_rfl, by kernel_rfl, by kernel_rfl, by kernel_rfl, by kernel_rfl, by kernel_rfl, by kernel_rfl, by kernel_rfl, by kernel_rfl, by kernel_rfl, by kernel_rfl, by kernel_rfl, by kernel_rfl, by kernel_rfl, by kernel_rfl, by kernel_rfl, by kernel_rfl, by kernel_rfl, by kernel_rfl, by kernel_rfl, by kernel_rfl, by kernel_rfl, by kernel_rfl, by kernel_rfl, by kernel_rfl, by kernel_rfl, by kernel_rfl, by kernel_rfl, by kernel_rfl, by kernel_rfl, by kernel_rfl, by kernel_rfl, by kernel_rfl, by kernel_rfl, by kernel_rfl, by kernel_rfl, by kernel_rfl, by kernel_rfl, by kernel_rfl, trivial⟩
theorem TY11 : okT Tryd.prog 85 = true ∧ oneB Tryd.prog 85 = true ∧ szOf Tryd.prog 85 = 1 ∧ zeroV Tryd.prog 85 = some (.pointer none) ∧ ptB Tryd.prog 85 = true ∧ okT Tryd.prog 86 = true ∧ oneB Tryd.prog 86 = true ∧ okT Tryd.prog 87 = true ∧ oneB Tryd.prog 87 = true ∧ okT Tryd.prog 88 = true ∧ oneB Tryd.prog 88 = true ∧ okT Tryd.prog 89 = true ∧ oneB Tryd.prog 89 = true ∧ okT Tryd.prog 90 = true ∧ oneB Tryd.prog 90 = true ∧ szOf Tryd.prog 90 = 1 ∧ zeroV Tryd.prog 90 = some (.pointer none) ∧ okT Tryd.prog 91 = true ∧ oneB Tryd.prog 91 = true ∧ okT Tryd.prog 92 = true ∧ oneB Tryd.prog 92 = true ∧ okT Tryd.prog 93 = true ∧ oneB Tryd.prog 93 = true ∧ okT Tryd.prog 94 = true ∧ oneB Tryd.prog 94 = true ∧ okT Tryd.prog 95 = true ∧ oneB Tryd.prog 95 = true ∧ okT Tryd.prog 96 = true ∧ oneB Tryd.prog 96 = true ∧ okT Tryd.prog 97 = true ∧ oneB Tryd.prog 97 = true ∧ szOf Tryd.prog 97 = 1 ∧ zeroV Tryd.prog 97 = some (.pointer none) ∧ ptB Tryd.prog 97 = true ∧ okT Tryd.prog 98 = true ∧ oneB Tryd.prog 98 = true ∧ okT Tryd.prog 99 = true ∧ oneB Tryd.prog 99 = true ∧ okT Tryd.prog 100 = true ∧ oneB Tryd.prog 100 = true ∧ True := ⟨by kernel_rfl, by kernel_rfl, by kernel_rfl, by kernel_rfl, by kernel_rfl, by kernel_rfl, by kernel_rfl, by kernel_rfl, by kernel_rfl, by kernel_rfl, by kernel_rfl, by kernel_rfl, by kernel_rfl, by kernel_rfl, by kernel_rfl, by kernel_rfl, by kernel_rfl, by kernel_rfl, by kernel_rfl, by kernel_rfl, by kernel_rfl, by kernel_rfl, by kernel_rfl, by kernel_rfl, by kernel_rfl, by kernel_rfl, by kernel_rfl, by kernel_rfl, by kernel_rfl, by kernel_rfl, by kernel_rfl, by kernel_rfl, by kernel_rfl, by kernel_rfl, by kernel_rfl, by kernel_rfl, by kernel_rfl, by kernel_rfl, by kernel_rfl, by kernel_rfl, trivial⟩
theorem TY12 : szOf Tryd.prog 100 = 1 ∧ zeroV Tryd.prog 100 = some (.pointer none) ∧ ptB Tryd.prog 100 = true ∧ okT Tryd.prog 101 = true ∧ oneB Tryd.prog 101 = true ∧ okT Tryd.prog 102 = true ∧ oneB Tryd.prog 102 = true ∧ okT Tryd.prog 103 = true ∧ oneB Tryd.prog 103 = true ∧ okT Tryd.prog 104 = true ∧ ikT Tryd.prog 104 = some .u64 ∧ oneB Tryd.prog 104 = true ∧ szOf Tryd.prog 104 = 1 ∧ zeroV Tryd.prog 104 = some (.int .u64 0) ∧ okT Tryd.prog 105 = true ∧ oneB Tryd.prog 105 = true ∧ okT Tryd.prog 106 = true ∧ ikT Tryd.prog 106 = some .u32 ∧ oneB Tryd.prog 106 = true ∧ szOf Tryd.prog 106 = 1 ∧ zeroV Tryd.prog 106 = some (.int .u32 0) ∧ okT Tryd.prog 108 = true ∧ oneB Tryd.prog 108 = true ∧ okT Tryd.prog 110 = true ∧ oneB Tryd.prog 110 = true ∧ okT Tryd.prog 111 = true ∧ oneB Tryd.prog 111 = true ∧ okT Tryd.prog 112 = true ∧ ikT Tryd.prog 112 = some .u64 ∧ oneB Tryd.prog 112 = true ∧ szOf Tryd.prog 112 = 1 ∧ zeroV Tryd.prog 112 = some (.int .u64 0) ∧ okT Tryd.prog 113 = true ∧ zeroV Tryd.prog 113 = some (.agg #[.int .u8 0, .int .u8 0, .int .u8 0, .int .u8 0, .int .u8 0, .int .u8 0, .int .u8 0, .int .u8 0, .int .u8 0, .int .u8 0, .int .u8 0, .int .u8 0, .int .u8 0, .int .u8 0, .int .u8 0, .int .u8 0, .int .u8 0, .int .u8 0, .int .u8 0, .int .u8 0, .int .u8 0, .int .u8 0, .int .u8 0, .int .u8 0]) ∧ okT Tryd.prog 114 = true ∧ oneB Tryd.prog 114 = true ∧ okT Tryd.prog 115 = true ∧ oneB Tryd.prog 115 = true ∧ okT Tryd.prog 117 = true ∧ oneB Tryd.prog 117 = true ∧ True := ⟨by kernel_rfl, by kernel_rfl, by kernel_rfl, by kernel_rfl, by kernel_rfl, by kernel_rfl, by kernel_rfl, by kernel_rfl, by kernel_rfl, by kernel_rfl, by kernel_rfl, by kernel_rfl, by kernel_rfl, by kernel_rfl, by kernel_rfl, by kernel_rfl, by kernel_rfl, by kernel_rfl, by kernel_rfl, by kernel_rfl, by kernel_rfl, by kernel_rfl, by kernel_rfl, by kernel_rfl, by kernel_rfl, by kernel_rfl, by kernel_rfl, by kernel_rfl, by kernel_rfl, by kernel_rfl, by kernel_rfl, by kernel_rfl, by kernel_rfl, by kernel_rfl, by kernel_rfl, by kernel_rfl, by kernel_rfl, by kernel_rfl, by kernel_rfl, by kernel_rfl, trivial⟩
theorem TY13 : okT Tryd.prog 118 = true ∧ oneB Tryd.prog 118 = true ∧ okT Tryd.prog 119 = true ∧ zeroV Tryd.prog 119 = some (.agg #[.int .u64 0, .int .u64 0, .int .u64 0, .int .u64 0, .int .u64 0, .int .u64 0, .int .u64 0, .int .u64 0, .int .u64 0, .int .u64 0, .int .u64 0, .int .u64 0, .int .u64 0, .int .u64 0, .int .u64 0, .int .u64 0, .int .u64 0, .int .u64 0, .int .u64 0, .int .u64 0]) ∧ okT Tryd.prog 120 = true ∧ okT Tryd.prog 121 = true ∧ oneB Tryd.prog 121 = true ∧ okT Tryd.prog 122 = true ∧ oneB Tryd.prog 122 = true ∧ okT Tryd.prog 123 = true ∧ oneB Tryd.prog 123 = true ∧ okT Tryd.prog 124 = true ∧ zeroV Tryd.prog 124 = some (.agg #[.int .u8 0, .int .u8 0, .int .u8 0, .int .u8 0, .int .u8 0, .int .u8 0, .int .u8 0, .int .u8 0, .int .u8 0, .int .u8 0, .int .u8 0, .int .u8 0, .int .u8 0, .int .u8 0, .int .u8 0, .int .u8 0, .int .u8 0, .int .u8 0, .int .u8 0, .int .u8 0, .int .u8 0, .int .u8 0, .int .u8 0, .int .u8 0, .int .u8 0, .int .u8 0, .int .u8 0, .int .u8 0, .int .u8 0, .int .u8 0, .int .u8 0, .int .u8 0]) ∧ okT Tryd.prog 125 = true ∧ okT Tryd.prog 126 = true ∧ oneB Tryd.prog 126 = false ∧ szOf Tryd.prog 126 = 4 ∧ zeroV Tryd.prog 126 = some (.agg #[.pointer none, .pointer none, .pointer none, .string .empty]) ∧ aggN Tryd.prog 126 = some 4 ∧ plT Tryd.prog 126 = some [(0, 1), (1, 1), (2, 1), (3, 1)] ∧ fOff Tryd.prog 126 0 = some 0 ∧ fOff Tryd.prog 126 1 = some 1 ∧ fOff Tryd.prog 126 2 = some 2 ∧ fOff Tryd.prog 126 3 = some 3 ∧ okT Tryd.prog 127 = true ∧ oneB Tryd.prog 127 = false ∧ szOf Tryd.prog 127 = 4 ∧ zeroV Tryd.prog 127 = some (.agg #[.pointer none, .pointer none, .pointer none, .string .empty]) ∧ aggN Tryd.prog 127 = some 4 ∧ plT Tryd.prog 127 = some [(0, 1), (1, 1), (2, 1), (3, 1)] ∧ fOff Tryd.prog 127 0 = some 0 ∧ fOff Tryd.prog 127 1 = some 1 ∧ fOff Tryd.prog 127 2 = some 2 ∧ fOff Tryd.prog 127 3 = some 3 ∧ okT Tryd.prog 128 = true ∧ zeroV Tryd.prog 128 = some (.agg #[]) ∧ okT Tryd.prog 129 = true ∧ oneB Tryd.prog 129 = false ∧ szOf Tryd.prog 129 = 0 ∧ zeroV Tryd.prog 129 = some (.agg #[]) ∧ True := ⟨by kernel_rfl, by kernel_rfl, by kernel_rfl, by kernel_rfl, by kernel_rfl, by kernel_rfl, by kernel_rfl, by kernel_rfl, by kernel_rfl, by kernel_rfl, by kernel_rfl, by kernel_rfl, by kernel_rfl, by kernel_rfl, by kernel_rfl, by kernel_rfl, by kernel_rfl, by kernel_rfl, by kernel_rfl, by kernel_rfl, by kernel_rfl, by kernel_rfl, by kernel_rfl, by kernel_rfl, by kernel_rfl, by kernel_rfl, by kernel_rfl, by kernel_rfl, by kernel_rfl, by kernel_rfl, by kernel_rfl, by kernel_rfl, by kernel_rfl, by kernel_rfl, by kernel_rfl, by kernel_rfl, by kernel_rfl, by kernel_rfl, by kernel_rfl, by kernel_rfl, trivial⟩
theorem TY14 : aggN Tryd.prog 129 = some 0 ∧ plT Tryd.prog 129 = some [(0, 0)] ∧ okT Tryd.prog 130 = true ∧ oneB Tryd.prog 130 = false ∧ szOf Tryd.prog 130 = 0 ∧ zeroV Tryd.prog 130 = some (.agg #[]) ∧ aggN Tryd.prog 130 = some 0 ∧ plT Tryd.prog 130 = some [(0, 0)] ∧ okT Tryd.prog 131 = true ∧ ikT Tryd.prog 131 = some .u8 ∧ oneB Tryd.prog 131 = true ∧ szOf Tryd.prog 131 = 1 ∧ zeroV Tryd.prog 131 = some (.int .u8 0) ∧ okT Tryd.prog 132 = true ∧ ikT Tryd.prog 132 = some .u8 ∧ oneB Tryd.prog 132 = true ∧ szOf Tryd.prog 132 = 1 ∧ zeroV Tryd.prog 132 = some (.int .u8 0) ∧ okT Tryd.prog 133 = true ∧ oneB Tryd.prog 133 = true ∧ okT Tryd.prog 134 = true ∧ ikT Tryd.prog 134 = some .i32 ∧ oneB Tryd.prog 134 = true ∧ szOf Tryd.prog 134 = 1 ∧ zeroV Tryd.prog 134 = some (.int .i32 0) ∧ okT Tryd.prog 135 = true ∧ ikT Tryd.prog 135 = some .i32 ∧ oneB Tryd.prog 135 = true ∧ szOf Tryd.prog 135 = 1 ∧ zeroV Tryd.prog 135 = some (.int .i32 0) ∧ okT Tryd.prog 136 = true ∧ oneB Tryd.prog 136 = false ∧ szOf Tryd.prog 136 = 11 ∧ zeroV Tryd.prog 136 = some (.agg #[.int .u64 0, .int .u64 0, .int .u32 0, .int .u8 0, .int .u8 0, .int .u8 0, .int .u8 0, .nilFunc, .pointer none, .int .i32 0, .int .i32 0]) ∧ aggN Tryd.prog 136 = some 11 ∧ plT Tryd.prog 136 = some [(0, 1), (1, 1), (2, 1), (3, 1), (4, 1), (5, 1), (6, 1), (7, 1), (8, 1), (9, 1), (10, 1)] ∧ fOff Tryd.prog 136 0 = some 0 ∧ fOff Tryd.prog 136 1 = some 1 ∧ fOff Tryd.prog 136 2 = some 2 ∧ fOff Tryd.prog 136 3 = some 3 ∧ True := ⟨by kernel_rfl, by kernel_rfl, by kernel_rfl, by kernel_rfl, by kernel_rfl, by kernel_rfl, by kernel_rfl, by kernel_rfl, by kernel_rfl, by kernel_rfl, by kernel_rfl, by kernel_rfl, by kernel_rfl, by kernel_rfl, by kernel_rfl, by kernel_rfl, by kernel_rfl, by kernel_rfl, by kernel_rfl, by kernel_rfl, by kernel_rfl, by kernel_rfl, by kernel_rfl, by kernel_rfl, by kernel_rfl, by kernel_rfl, by kernel_rfl, by kernel_rfl, by kernel_rfl, by kernel_rfl, by kernel_rfl, by kernel_rfl, by kernel_rfl, by kernel_rfl, by kernel_rfl, by kernel_rfl, by kernel_rfl, by kernel_rfl, by kernel_rfl, by kernel_rfl, trivial⟩
theorem TY15 : fOff Tryd.prog 136 4 = some 4 ∧ fOff Tryd.prog 136 5 = some 5 ∧ fOff Tryd.prog 136 6 = some 6 ∧ fOff Tryd.prog 136 7 = some 7 ∧ fOff Tryd.prog 136 8 = some 8 ∧ fOff Tryd.prog 136 9 = some 9 ∧ fOff Tryd.prog 136 10 = some 10 ∧ okT Tryd.prog 137 = true ∧ oneB Tryd.prog 137 = false ∧ szOf Tryd.prog 137 = 11 ∧ zeroV Tryd.prog 137 = some (.agg #[.int .u64 0, .int .u64 0, .int .u32 0, .int .u8 0, .int .u8 0, .int .u8 0, .int .u8 0, .nilFunc, .pointer none, .int .i32 0, .int .i32 0]) ∧ aggN Tryd.prog 137 = some 11 ∧ plT Tryd.prog 137 = some [(0, 1), (1, 1), (2, 1), (3, 1), (4, 1), (5, 1), (6, 1), (7, 1), (8, 1), (9, 1), (10, 1)] ∧ fOff Tryd.prog 137 0 = some 0 ∧ fOff Tryd.prog 137 1 = some 1 ∧ fOff Tryd.prog 137 2 = some 2 ∧ fOff Tryd.prog 137 3 = some 3 ∧ fOff Tryd.prog 137 4 = some 4 ∧ fOff Tryd.prog 137 5 = some 5 ∧ fOff Tryd.prog 137 6 = some 6 ∧ fOff Tryd.prog 137 7 = some 7 ∧ fOff Tryd.prog 137 8 = some 8 ∧ fOff Tryd.prog 137 9 = some 9 ∧ fOff Tryd.prog 137 10 = some 10 ∧ True := ⟨by kernel_rfl, by kernel_rfl, by kernel_rfl, by kernel_rfl, by kernel_rfl, by kernel_rfl, by kernel_rfl, by kernel_rfl, by kernel_rfl, by kernel_rfl, by kernel_rfl, by kernel_rfl, by kernel_rfl, by kernel_rfl, by kernel_rfl, by kernel_rfl, by kernel_rfl, by kernel_rfl, by kernel_rfl, by kernel_rfl, by kernel_rfl, by kernel_rfl, by kernel_rfl, by kernel_rfl, trivial⟩
theorem BF : bodyB Tryd.prog 2 = true ∧ bodyB Tryd.prog 3 = true ∧ bodyB Tryd.prog 4 = true ∧ bodyB Tryd.prog 5 = true ∧ bodyB Tryd.prog 6 = true ∧ bodyB Tryd.prog 7 = true ∧ bodyB Tryd.prog 8 = true ∧ bodyB Tryd.prog 9 = true ∧ bodyB Tryd.prog 10 = true ∧ bodyB Tryd.prog 11 = true ∧ bodyB Tryd.prog 12 = true ∧ bodyB Tryd.prog 13 = true ∧ bodyB Tryd.prog 14 = true ∧ bodyB Tryd.prog 15 = true ∧ bodyB Tryd.prog 16 = true ∧ bodyB Tryd.prog 17 = true ∧ bodyB Tryd.prog 18 = true ∧ bodyB Tryd.prog 19 = true ∧ bodyB Tryd.prog 20 = true ∧ bodyB Tryd.prog 21 = true ∧ bodyB Tryd.prog 22 = true ∧ bodyB Tryd.prog 23 = true ∧ bodyB Tryd.prog 24 = true ∧ bodyB Tryd.prog 25 = true ∧ bodyB Tryd.prog 26 = true ∧ bodyB Tryd.prog 27 = true ∧ bodyB Tryd.prog 28 = true ∧ bodyB Tryd.prog 29 = true ∧ bodyB Tryd.prog 30 = true ∧ bodyB Tryd.prog 31 = true ∧ bodyB Tryd.prog 32 = true ∧ bodyB Tryd.prog 33 = true ∧ bodyB Tryd.prog 34 = true ∧ bodyB Tryd.prog 35 = true ∧ bodyB Tryd.prog 36 = true ∧ bodyB Tryd.prog 37 = true ∧ bodyB Tryd.prog 38 = true ∧ bodyB Tryd.prog 39 = true ∧ bodyB Tryd.prog 40 = true ∧ bodyB Tryd.prog 42 = true ∧ bodyB Tryd.prog 43 = true ∧ bodyB Tryd.prog 44 = true ∧ bodyB Tryd.prog 45 = true ∧ bodyB Tryd.prog 46 = true ∧ bodyB Tryd.prog 47 = true ∧ bodyB Tryd.prog 48 = true ∧ bodyB Tryd.prog 49 = true ∧ bodyB Tryd.prog 50 = true ∧ bodyB Tryd.prog 51 = true ∧ bodyB Tryd.prog 52 = true ∧ bodyB Tryd.prog 54 = true ∧ bodyB Tryd.prog 55 = true ∧ bodyB Tryd.prog 56 = true ∧ bodyB Tryd.prog 57 = true ∧ bodyB Tryd.prog 58 = true ∧ bodyB Tryd.prog 59 = true ∧ bodyB Tryd.prog 60 = true ∧ bodyB Tryd.prog 61 = true ∧ bodyB Tryd.prog 62 = true ∧ bodyB Tryd.prog 63 = true ∧ bodyB Tryd.prog 64 = true ∧ bodyB Tryd.prog 65 = true ∧ bodyB Tryd.prog 66 = true ∧ bodyB Tryd.prog 67 = true ∧ bodyB Tryd.prog 68 = true ∧ bodyB Tryd.prog 69 = true ∧ bodyB Tryd.prog 70 = true ∧ bodyB Tryd.prog 71 = true ∧ bodyB Tryd.prog 72 = true ∧ bodyB Tryd.prog 73 = true ∧ bodyB Tryd.prog 75 = true ∧ bodyB Tryd.prog 76 = true ∧ bodyB Tryd.prog 78 = true ∧ bodyB Tryd.prog 79 = true ∧ bodyB Tryd.prog 80 = true ∧ bodyB Tryd.prog 81 = true ∧ bodyB Tryd.prog 82 = true ∧ bodyB Tryd.prog 83 = true ∧ bodyB Tryd.prog 84 = true ∧ bodyB Tryd.prog 86 = true ∧ bodyB Tryd.prog 87 = true ∧ bodyB Tryd.prog 88 = true ∧ bodyB Tryd.prog 89 = true ∧ bodyB Tryd.prog 90 = true ∧ bodyB Tryd.prog 91 = true ∧ bodyB Tryd.prog 92 = true ∧ bodyB Tryd.prog 93 = true ∧ bodyB Tryd.prog 94 = true ∧ bodyB Tryd.prog 95 = true ∧ bodyB Tryd.prog 96 = true ∧ bodyB Tryd.prog 97 = true ∧ bodyB Tryd.prog 98 = true ∧ bodyB Tryd.prog 99 = true ∧ bodyB Tryd.prog 100 = true ∧ bodyB Tryd.prog 125 = true ∧ True := ⟨by kernel_rfl, by kernel_rfl, by kernel_rfl, by kernel_rfl, by kernel_rfl, by kernel_rfl, by kernel_rfl, by kernel_rfl, by kernel_rfl, by kernel_rfl, by kernel_rfl, by kernel_rfl, by kernel_rfl, by kernel_rfl, by kernel_rfl, by kernel_rfl, by kernel_rfl, by kernel_rfl, by kernel_rfl, by kernel_rfl, by kernel_rfl, by kernel_rfl, by kernel_rfl, by kernel_rfl, by kernel_rfl, by kernel_rfl, by kernel_rfl, by kernel_rfl, by kernel_rfl, by kernel_rfl, by kernel_rfl, by kernel_rfl, by kernel_rfl, by kernel_rfl, by kernel_rfl, by kernel_rfl, by kernel_rfl, by kernel_rfl, by kernel_rfl, by kernel_rfl, by kernel_rfl, by kernel_rfl, by kernel_rfl, by kernel_rfl, by kernel_rfl, by kernel_rfl, by kernel_rfl, by kernel_rfl, by kernel_rfl, by kernel_rfl, by kernel_rfl, by kernel_rfl, by kernel_rfl, by kernel_rfl, by kernel_rfl, by kernel_rfl, by kernel_rfl, by kernel_rfl, by kernel_rfl, by kernel_rfl, by kernel_rfl, by kernel_rfl, by kernel_rfl, by kernel_rfl, by kernel_rfl, by kernel_rfl, by kernel_rfl, by kernel_rfl, by kernel_rfl, by kernel_rfl, by kernel_rfl, by kernel_rfl, by kernel_rfl, by kernel_rfl, by kernel_rfl, by kernel_rfl, by kernel_rfl, by kernel_rfl, by kernel_rfl, by kernel_rfl, by kernel_rfl, by kernel_rfl, by kernel_rfl, by kernel_rfl, by kernel_rfl, by kernel_rfl, by kernel_rfl, by kernel_rfl, by kernel_rfl, by kernel_rfl, by kernel_rfl, by kernel_rfl, by kernel_rfl, by kernel_rfl, by kernel_rfl, trivial⟩
theorem MX : Tryd.prog.follows .mixedOrders = true := by kernel_rfl
theorem RB0 : (type_of% @one_0) ∧ (type_of% @V_nil) ∧ (type_of% @V_op) ∧ (type_of% @Okr_value) ∧ (type_of% @E_nil) ∧ (type_of% @E_op) ∧ (type_of% @E_opg) ∧ (type_of% @S_nil) ∧ (type_of% @S_op) ∧ (type_of% @S_opg) ∧ (type_of% @W_skip) ∧ (type_of% @W_region) ∧ (type_of% @trivial) := ⟨@one_0, @V_nil, @V_op, @Okr_value, @E_nil, @E_op, @E_opg, @S_nil, @S_op, @S_opg, @W_skip, @W_region, @trivial⟩
theorem RB1 : (type_of% @W_draw) ∧ (type_of% @W_seq) ∧ (type_of% @W_block) ∧ (type_of% @W_exit) ∧ (type_of% @W_ret) ∧ (type_of% @W_loop) ∧ (type_of% @W_goto) ∧ (type_of% @W_label) ∧ (type_of% @W_scope) ∧ (type_of% @thenX_goto) ∧ (type_of% @inX_goto) ∧ (type_of% @jumpX_normal) ∧ (type_of% @trivial) := ⟨@W_draw, @W_seq, @W_block, @W_exit, @W_ret, @W_loop, @W_goto, @W_label, @W_scope, @thenX_goto, @inX_goto, @jumpX_normal, @trivial⟩
theorem RB2 : (type_of% @jumpX_ret) ∧ (type_of% @jumpX_exit) ∧ (type_of% @jumpX_goto) ∧ (type_of% @thenX_normal) ∧ (type_of% @thenX_ret) ∧ (type_of% @thenX_exit) ∧ (type_of% @inX_normal) ∧ (type_of% @inX_ret) ∧ (type_of% @inX_exit_same) ∧ (type_of% @inX_exit_ne) ∧ (type_of% @Okv_value) ∧ (type_of% @Okv_skip) ∧ (type_of% @trivial) := ⟨@jumpX_ret, @jumpX_exit, @jumpX_goto, @thenX_normal, @thenX_ret, @thenX_exit, @inX_normal, @inX_ret, @inX_exit_same, @inX_exit_ne, @Okv_value, @Okv_skip, @trivial⟩
theorem RB3 : (type_of% @Oks_value) ∧ (type_of% @GB_true) ∧ (type_of% @GB_false) ∧ (type_of% @GB_value) ∧ (type_of% @GS_true) ∧ (type_of% @GS_false) ∧ (type_of% @GS_value) ∧ (type_of% @put_none) ∧ (type_of% @put_some) ∧ (type_of% @upd_apply) ∧ (type_of% @ev_tmp) ∧ (type_of% @ev_const) ∧ (type_of% @trivial) := ⟨@Oks_value, @GB_true, @GB_false, @GB_value, @GS_true, @GS_false, @GS_value, @put_none, @put_some, @upd_apply, @ev_tmp, @ev_const, @trivial⟩
theorem RB4 : (type_of% @ev_global) ∧ (type_of% @ev_func) ∧ (type_of% @isB_bool) ∧ (type_of% @isB_cv) ∧ (type_of% @isB_undef) ∧ (type_of% @beq_t) ∧ (type_of% @beq_f) ∧ (type_of% @cv_true) ∧ (type_of% @cv_false) ∧ (type_of% @pk_true) ∧ (type_of% @pk_false) ∧ (type_of% @pk_or) ∧ (type_of% @trivial) := ⟨@ev_global, @ev_func, @isB_bool, @isB_cv, @isB_undef, @beq_t, @beq_f, @cv_true, @cv_false, @pk_true, @pk_false, @pk_or, @trivial⟩
theorem RB5 : (type_of% @pk_and) ∧ (type_of% @pk_bool) ∧ (type_of% @r_move) ∧ (type_of% @r_assign) ∧ (type_of% @r_pick) ∧ (type_of% @r_bin) ∧ (type_of% @r_un) ∧ (type_of% @r_load) ∧ (type_of% @r_store) ∧ (type_of% @r_fieldAddr) ∧ (type_of% @r_indexAddr) ∧ (type_of% @r_index) ∧ (type_of% @trivial) := ⟨@pk_and, @pk_bool, @r_move, @r_assign, @r_pick, @r_bin, @r_un, @r_load, @r_store, @r_fieldAddr, @r_indexAddr, @r_index, @trivial⟩
theorem RB6 : (type_of% @r_field) ∧ (type_of% @r_box) ∧ (type_of% @r_alloc) ∧ (type_of% @r_extract) ∧ (type_of% @r_convert) ∧ (type_of% @r_nil) ∧ (type_of% @r_len) ∧ (type_of% @r_call) ∧ (type_of% @vPick_bool) ∧ (type_of% @vNil_some) ∧ (type_of% @vBin_lss) ∧ (type_of% @vBin_leq) ∧ (type_of% @trivial) := ⟨@r_field, @r_box, @r_alloc, @r_extract, @r_convert, @r_nil, @r_len, @r_call, @vPick_bool, @vNil_some, @vBin_lss, @vBin_leq, @trivial⟩
theorem RB7 : (type_of% @vBin_gtr) ∧ (type_of% @vBin_geq) ∧ (type_of% @vBin_eql) ∧ (type_of% @vBin_neq) ∧ (type_of% @vBin_add) ∧ (type_of% @vBin_sub) ∧ (type_of% @vBin_mul) ∧ (type_of% @vBin_eqls) ∧ (type_of% @vBin_neqs) ∧ (type_of% @vBin_quo) ∧ (type_of% @vBin_rem) ∧ (type_of% @vBin_enil) ∧ (type_of% @trivial) := ⟨@vBin_gtr, @vBin_geq, @vBin_eql, @vBin_neq, @vBin_add, @vBin_sub, @vBin_mul, @vBin_eqls, @vBin_neqs, @vBin_quo, @vBin_rem, @vBin_enil, @trivial⟩
theorem RB8 : (type_of% @vBin_nnil) ∧ (type_of% @vBin_eqlb) ∧ (type_of% @vBin_neqb) ∧ (type_of% @r_makeMap) ∧ (type_of% @r_lookup) ∧ (type_of% @r_mapUpdate) ∧ (type_of% @vMakeMap_at) ∧ (type_of% @r_build) ∧ (type_of% @vBuild_at) ∧ (type_of% @bldT_some) ∧ (type_of% @r_buildSlice) ∧ (type_of% @vBuildSlice_at) ∧ (type_of% @trivial) := ⟨@vBin_nnil, @vBin_eqlb, @vBin_neqb, @r_makeMap, @r_lookup, @r_mapUpdate, @vMakeMap_at, @r_build, @vBuild_at, @bldT_some, @r_buildSlice, @vBuildSlice_at, @trivial⟩
theorem RB9 : (type_of% @bslT_some) ∧ (type_of% @r_makeSlice) ∧ (type_of% @r_append) ∧ (type_of% @vUn_not) ∧ (type_of% @vLoad_at) ∧ (type_of% @lk_some) ∧ (type_of% @lkA_some) ∧ (type_of% @ldT_one) ∧ (type_of% @ldT_agg) ∧ (type_of% @vFieldAddr_at) ∧ (type_of% @faT_some) ∧ (type_of% @vIndexAddr_at) ∧ (type_of% @trivial) := ⟨@bslT_some, @r_makeSlice, @r_append, @vUn_not, @vLoad_at, @lk_some, @lkA_some, @ldT_one, @ldT_agg, @vFieldAddr_at, @faT_some, @vIndexAddr_at, @trivial⟩
theorem RB10 : (type_of% @iaT_some) ∧ (type_of% @vIndex_str) ∧ (type_of% @stT_true) ∧ (type_of% @vStore_int) ∧ (type_of% @vStore_bool) ∧ (type_of% @vStore_str) ∧ (type_of% @vStore_ptr) ∧ (type_of% @vStore_slc) ∧ (type_of% @vStore_map) ∧ (type_of% @soT_ok) ∧ (type_of% @vStore_agg) ∧ (type_of% @vStore_aggN) ∧ (type_of% @trivial) := ⟨@iaT_some, @vIndex_str, @stT_true, @vStore_int, @vStore_bool, @vStore_str, @vStore_ptr, @vStore_slc, @vStore_map, @soT_ok, @vStore_agg, @vStore_aggN, @trivial⟩
theorem RB11 : (type_of% @setCells_nil) ∧ (type_of% @setCells_cons) ∧ (type_of% @cS_same) ∧ (type_of% @cS_other) ∧ (type_of% @World.frozen?_setCell) ∧ (type_of% @World.frozen?_drew) ∧ (type_of% @World.frozen?_alloc_at) ∧ (type_of% @World.frozen?_alloc_past) ∧ (type_of% @vLen_str) ∧ (type_of% @vLen_slc) ∧ (type_of% @ifB_true) ∧ (type_of% @vBox_at) ∧ (type_of% @trivial) := ⟨@setCells_nil, @setCells_cons, @cS_same, @cS_other, @World.frozen?_setCell, @World.frozen?_drew, @World.frozen?_alloc_at, @World.frozen?_alloc_past, @vLen_str, @vLen_slc, @ifB_true, @vBox_at, @trivial⟩
theorem RB12 : (type_of% @vAlloc_at) ∧ (type_of% @alT_some) ∧ (type_of% @vCall_at) ∧ (type_of% @vExtract_0) ∧ (type_of% @vExtract_1) ∧ (type_of% @vExtract_2) ∧ (type_of% @post_normal) ∧ (type_of% @post_ret) ∧ (type_of% @resE_list) ∧ (type_of% @resL_nil) ∧ (type_of% @resL_tmp) ∧ (type_of% @resL_cell) ∧ (type_of% @trivial) := ⟨@vAlloc_at, @alT_some, @vCall_at, @vExtract_0, @vExtract_1, @vExtract_2, @post_normal, @post_ret, @resE_list, @resL_nil, @resL_tmp, @resL_cell, @trivial⟩
theorem RB13 : (type_of% @one_1) ∧ (type_of% @one_2) ∧ (type_of% @resC_at) ∧ (type_of% @resV_value) ∧ (type_of% @condX_bool) ∧ (type_of% @cast1) ∧ (type_of% @World.size_alloc) ∧ (type_of% @World.size_setCell) ∧ (type_of% @World.size_drew) ∧ (type_of% @World.cell?_alloc_at) ∧ (type_of% @World.cell?_alloc_past) ∧ (type_of% @World.setCell_alloc_at) ∧ (type_of% @trivial) := ⟨@one_1, @one_2, @resC_at, @resV_value, @condX_bool, @cast1, @World.size_alloc, @World.size_setCell, @World.size_drew, @World.cell?_alloc_at, @World.cell?_alloc_past, @World.setCell_alloc_at, @trivial⟩
theorem RB14 : (type_of% @World.setCell_alloc_past) ∧ (type_of% @World.cell?_drew) ∧ (type_of% @World.alloc_drew) ∧ (type_of% @World.setCell_drew) ∧ (type_of% @cells_int) ∧ (type_of% @cells_bool) ∧ (type_of% @cells_str) ∧ (type_of% @cells_ptr) ∧ (type_of% @cells_slc) ∧ (type_of% @cells_map) ∧ (type_of% @cells_agg) ∧ (type_of% @Nat.add_zero) ∧ (type_of% @trivial) := ⟨@World.setCell_alloc_past, @World.cell?_drew, @World.alloc_drew, @World.setCell_drew, @cells_int, @cells_bool, @cells_str, @cells_ptr, @cells_slc, @cells_map, @cells_agg, @Nat.add_zero, @trivial⟩
theorem RB15 : (type_of% @Nat.zero_add) ∧ (type_of% @Nat.mul_one) ∧ (type_of% @Nat.zero_mul) ∧ (type_of% @Bool.false_eq_true) ∧ (type_of% @Bool.true_and) ∧ (type_of% @Bool.and_true) ∧ (type_of% @Bool.false_and) ∧ (type_of% @Bool.and_false) ∧ (type_of% @Bool.or_true) ∧ (type_of% @Bool.true_or) ∧ (type_of% @Bool.false_or) ∧ (type_of% @Bool.or_false) ∧ (type_of% @trivial) := ⟨@Nat.zero_add, @Nat.mul_one, @Nat.zero_mul, @Bool.false_eq_true, @Bool.true_and, @Bool.and_true, @Bool.false_and, @Bool.and_false, @Bool.or_true, @Bool.true_or, @Bool.false_or, @Bool.or_false, @trivial⟩
theorem RB16 : (type_of% @Bool.not_true) ∧ (type_of% @Bool.not_false) ∧ (type_of% @true_and) ∧ (type_of% @and_true) ∧ (type_of% @Int.toNat_natCast) ∧ (type_of% @r_callv) ∧ (type_of% @vCallv_func) ∧ (type_of% @r_slice) ∧ (type_of% @slT_true) ∧ (type_of% @vSlice_lh) ∧ (type_of% @vSlice_l) ∧ (type_of% @vSlice_h) ∧ (type_of% @trivial) := ⟨@Bool.not_true, @Bool.not_false, @true_and, @and_true, @Int.toNat_natCast, @r_callv, @vCallv_func, @r_slice, @slT_true, @vSlice_lh, @vSlice_l, @vSlice_h, @trivial⟩
theorem RB17 : (type_of% @shT_some) ∧ (type_of% @vSlice_sh) ∧ (type_of% @vBin_adds) ∧ (type_of% @cvT_ok) ∧ (type_of% @vConvert_int) ∧ (type_of% @wrap_i32) ∧ (type_of% @wrap_i64) ∧ (type_of% @wrap_u8) ∧ (type_of% @vBin_rem8) ∧ (type_of% @vBin_add8) ∧ (type_of% @r_range) ∧ (type_of% @vRange_str) ∧ (type_of% @trivial) := ⟨@shT_some, @vSlice_sh, @vBin_adds, @cvT_ok, @vConvert_int, @wrap_i32, @wrap_i64, @wrap_u8, @vBin_rem8, @vBin_add8, @r_range, @vRange_str, @trivial⟩
theorem RB18 : (type_of% @r_next) ∧ (type_of% @wrap_u64) ∧ (type_of% @vBin_addU) ∧ (type_of% @vBin_subU) ∧ (type_of% @vBin_mulU) ∧ (type_of% @vBin_quoU) ∧ (type_of% @vBin_remU) ∧ (type_of% @vBin_sub8) ∧ (type_of% @vBin_quo8) ∧ (type_of% @vBin_shl4U) ∧ (type_of% @vBin_shl48) ∧ (type_of% @vBin_shr48) ∧ (type_of% @trivial) := ⟨@r_next, @wrap_u64, @vBin_addU, @vBin_subU, @vBin_mulU, @vBin_quoU, @vBin_remU, @vBin_sub8, @vBin_quo8, @vBin_shl4U, @vBin_shl48, @vBin_shr48, @trivial⟩
theorem RB19 : (type_of% @vBin_shrU) ∧ (type_of% @vBin_and15U) ∧ (type_of% @vBin_and158) ∧ (type_of% @vBin_or16U) ∧ (type_of% @vBin_or168) ∧ (type_of% @r_makeFunc) ∧ (type_of% @vCallv_caps) ∧ (type_of% @vUn_negI) ∧ (type_of% @r_min) ∧ (type_of% @vMin_int) ∧ (type_of% @Tryd.results2) ∧ (type_of% @Tryd.results3) ∧ (type_of% @trivial) := ⟨@vBin_shrU, @vBin_and15U, @vBin_and158, @vBin_or16U, @vBin_or168, @r_makeFunc, @vCallv_caps, @vUn_negI, @r_min, @vMin_int, @Tryd.results2, @Tryd.results3, @trivial⟩
theorem RB20 : (type_of% @Tryd.results4) ∧ (type_of% @Tryd.results5) ∧ (type_of% @Tryd.results6) ∧ (type_of% @Tryd.results7) ∧ (type_of% @Tryd.results8) ∧ (type_of% @Tryd.results9) ∧ (type_of% @Tryd.results10) ∧ (type_of% @Tryd.results11) ∧ (type_of% @Tryd.results12) ∧ (type_of% @Tryd.results13) ∧ (type_of% @Tryd.results14) ∧ (type_of% @Tryd.results15) ∧ (type_of% @trivial) := ⟨@Tryd.results4, @Tryd.results5, @Tryd.results6, @Tryd.results7, @Tryd.results8, @Tryd.results9, @Tryd.results10, @Tryd.results11, @Tryd.results12, @Tryd.results13, @Tryd.results14, @Tryd.results15, @trivial⟩
theorem RB21 : (type_of% @Tryd.results16) ∧ (type_of% @Tryd.results17) ∧ (type_of% @Tryd.results18) ∧ (type_of% @Tryd.results19) ∧ (type_of% @Tryd.results20) ∧ (type_of% @Tryd.results21) ∧ (type_of% @Tryd.results22) ∧ (type_of% @Tryd.results23) ∧ (type_of% @Tryd.results24) ∧ (type_of% @Tryd.results25) ∧ (type_of% @Tryd.results26) ∧ (type_of% @Tryd.results27) ∧ (type_of% @trivial) := ⟨@Tryd.results16, @Tryd.results17, @Tryd.results18, @Tryd.results19, @Tryd.results20, @Tryd.results21, @Tryd.results22, @Tryd.results23, @Tryd.results24, @Tryd.results25, @Tryd.results26, @Tryd.results27, @trivial⟩
theorem RB22 : (type_of% @Tryd.results28) ∧ (type_of% @Tryd.results29) ∧ (type_of% @Tryd.results30) ∧ (type_of% @Tryd.results31) ∧ (type_of% @Tryd.results32) ∧ (type_of% @Tryd.results33) ∧ (type_of% @Tryd.results34) ∧ (type_of% @Tryd.results35) ∧ (type_of% @Tryd.results36) ∧ (type_of% @Tryd.results37) ∧ (type_of% @Tryd.results38) ∧ (type_of% @Tryd.results39) ∧ (type_of% @trivial) := ⟨@Tryd.results28, @Tryd.results29, @Tryd.results30, @Tryd.results31, @Tryd.results32, @Tryd.results33, @Tryd.results34, @Tryd.results35, @Tryd.results36, @Tryd.results37, @Tryd.results38, @Tryd.results39, @trivial⟩
theorem RB23 : (type_of% @Tryd.results40) ∧ (type_of% @Tryd.results42) ∧ (type_of% @Tryd.results43) ∧ (type_of% @Tryd.results44) ∧ (type_of% @Tryd.results45) ∧ (type_of% @Tryd.results46) ∧ (type_of% @Tryd.results47) ∧ (type_of% @Tryd.results48) ∧ (type_of% @Tryd.results49) ∧ (type_of% @Tryd.results50) ∧ (type_of% @Tryd.results51) ∧ (type_of% @Tryd.results52) ∧ (type_of% @trivial) := ⟨@Tryd.results40, @Tryd.results42, @Tryd.results43, @Tryd.results44, @Tryd.results45, @Tryd.results46, @Tryd.results47, @Tryd.results48, @Tryd.results49, @Tryd.results50, @Tryd.results51, @Tryd.results52, @trivial⟩
theorem RB24 : (type_of% @Tryd.results54) ∧ (type_of% @Tryd.results55) ∧ (type_of% @Tryd.results56) ∧ (type_of% @Tryd.results57) ∧ (type_of% @Tryd.results58) ∧ (type_of% @Tryd.results59) ∧ (type_of% @Tryd.results60) ∧ (type_of% @Tryd.results61) ∧ (type_of% @Tryd.results62) ∧ (type_of% @Tryd.results63) ∧ (type_of% @Tryd.results64) ∧ (type_of% @Tryd.results65) ∧ (type_of% @trivial) := ⟨@Tryd.results54, @Tryd.results55, @Tryd.results56, @Tryd.results57, @Tryd.results58, @Tryd.results59, @Tryd.results60, @Tryd.results61, @Tryd.results62, @Tryd.results63, @Tryd.results64, @Tryd.results65, @trivial⟩
theorem RB25 : (type_of% @Tryd.results66) ∧ (type_of% @Tryd.results67) ∧ (type_of% @Tryd.results68) ∧ (type_of% @Tryd.results69) ∧ (type_of% @Tryd.results70) ∧ (type_of% @Tryd.results71) ∧ (type_of% @Tryd.results72) ∧ (type_of% @Tryd.results73) ∧ (type_of% @Tryd.results75) ∧ (type_of% @Tryd.results76) ∧ (type_of% @Tryd.results78) ∧ (type_of% @Tryd.results79) ∧ (type_of% @trivial) := ⟨@Tryd.results66, @Tryd.results67, @Tryd.results68, @Tryd.results69, @Tryd.results70, @Tryd.results71, @Tryd.results72, @Tryd.results73, @Tryd.results75, @Tryd.results76, @Tryd.results78, @Tryd.results79, @trivial⟩
theorem RB26 : (type_of% @Tryd.results80) ∧ (type_of% @Tryd.results81) ∧ (type_of% @Tryd.results82) ∧ (type_of% @Tryd.results83) ∧ (type_of% @Tryd.results84) ∧ (type_of% @Tryd.results86) ∧ (type_of% @Tryd.results87) ∧ (type_of% @Tryd.results88) ∧ (type_of% @Tryd.results89) ∧ (type_of% @Tryd.results90) ∧ (type_of% @Tryd.results91) ∧ (type_of% @Tryd.results92) ∧ (type_of% @trivial) := ⟨@Tryd.results80, @Tryd.results81, @Tryd.results82, @Tryd.results83, @Tryd.results84, @Tryd.results86, @Tryd.results87, @Tryd.results88, @Tryd.results89, @Tryd.results90, @Tryd.results91, @Tryd.results92, @trivial⟩
theorem RB27 : (type_of% @Tryd.results93) ∧ (type_of% @Tryd.results94) ∧ (type_of% @Tryd.results95) ∧ (type_of% @Tryd.results96) ∧ (type_of% @Tryd.results97) ∧ (type_of% @Tryd.results98) ∧ (type_of% @Tryd.results99) ∧ (type_of% @Tryd.results100) ∧ (type_of% @Tryd.results125) ∧ (type_of% @trivial) := ⟨@Tryd.results93, @Tryd.results94, @Tryd.results95, @Tryd.results96, @Tryd.results97, @Tryd.results98, @Tryd.results99, @Tryd.results100, @Tryd.results125, @trivial⟩
theorem SB0 : (type_of% @decide_true) ∧ (type_of% @decide_false) ∧ (type_of% @Option.isNone_some.{0}) ∧ (type_of% @Option.isNone_none.{0}) ∧ (type_of% @Option.isSome_some.{0}) ∧ (type_of% @Option.isSome_none.{0}) ∧ (type_of% @List.length_cons.{0}) ∧ (type_of% @List.length_nil.{0}) ∧ (type_of% @List.cons_append.{0}) ∧ (type_of% @List.nil_append.{0}) ∧ (type_of% @List.size_toArray.{0}) ∧ (type_of% @List.setIfInBounds_toArray.{0}) ∧ (type_of% @trivial) := ⟨@decide_true, @decide_false, @Option.isNone_some.{0}, @Option.isNone_none.{0}, @Option.isSome_some.{0}, @Option.isSome_none.{0}, @List.length_cons.{0}, @List.length_nil.{0}, @List.cons_append.{0}, @List.nil_append.{0}, @List.size_toArray.{0}, @List.setIfInBounds_toArray.{0}, @trivial⟩
theorem SB1 : (type_of% @List.set_cons_zero.{0}) ∧ (type_of% @List.set_cons_succ.{0}) ∧ (type_of% @Option.map_some.{0,0}) ∧ (type_of% @Option.map_none.{0,0}) ∧ (type_of% @List.getElem?_toArray.{0}) ∧ (type_of% @List.getElem?_cons_zero.{0}) ∧ (type_of% @List.getElem?_cons_succ.{0}) ∧ (type_of% @Option.bind_some.{0,0}) ∧ (type_of% @Option.bind_none.{0,0}) ∧ (type_of% @List.map_cons.{0,0}) ∧ (type_of% @List.map_nil.{0,0}) ∧ (type_of% @gval.eq_1) ∧ (type_of% @trivial) := ⟨@List.set_cons_zero.{0}, @List.set_cons_succ.{0}, @Option.map_some.{0,0}, @Option.map_none.{0,0}, @List.getElem?_toArray.{0}, @List.getElem?_cons_zero.{0}, @List.getElem?_cons_succ.{0}, @Option.bind_some.{0,0}, @Option.bind_none.{0,0}, @List.map_cons.{0,0}, @List.map_nil.{0,0}, @gval.eq_1, @trivial⟩
theorem SB2 : (type_of% @gval.eq_2) ∧ (type_of% @gslot.eq_1) ∧ (type_of% @fillL.eq_1) ∧ (type_of% @fillL.eq_2) ∧ (type_of% @numb.eq_1) ∧ (type_of% @numb.eq_2) ∧ (type_of% @catL.eq_1) ∧ (type_of% @catL.eq_2) ∧ (type_of% @ldN.eq_1) ∧ (type_of% @ldN.eq_2) ∧ (type_of% @init.eq_1) ∧ (type_of% @init.eq_2) ∧ (type_of% @trivial) := ⟨@gval.eq_2, @gslot.eq_1, @fillL.eq_1, @fillL.eq_2, @numb.eq_1, @numb.eq_2, @catL.eq_1, @catL.eq_2, @ldN.eq_1, @ldN.eq_2, @init.eq_1, @init.eq_2, @trivial⟩
theorem SB3 : (type_of% @okC.eq_1) ∧ (type_of% @okC.eq_2) ∧ (type_of% @agL.eq_1) ∧ (type_of% @agL.eq_2) ∧ (type_of% @trivial) := ⟨@okC.eq_1, @okC.eq_2, @agL.eq_1, @agL.eq_2, @trivial⟩
theorem TS : (type_of% @Bool.false_eq_true) ∧ (type_of% @false_or) ∧ (type_of% @or_false) ∧ (type_of% @true_and) ∧ (type_of% @and_true) ∧ (type_of% @not_false_eq_true) ∧ (type_of% @Bool.true_eq_false) ∧ (type_of% @decide_eq_true_eq) ∧ (type_of% @decide_eq_false_iff_not) ∧ (type_of% @Bool.not_eq_true') ∧ (type_of% @Bool.not_eq_false') ∧ (type_of% @Bool.and_eq_true) ∧ (type_of% @Bool.or_eq_true) ∧ (type_of% @Bool.and_eq_false_iff) ∧ (type_of% @Bool.or_eq_false_iff) ∧ (type_of% @Bool.not_not) ∧ (type_of% @Classical.not_not) ∧ (type_of% @trivial) := ⟨@Bool.false_eq_true, @false_or, @or_false, @true_and, @and_true, @not_false_eq_true, @Bool.true_eq_false, @decide_eq_true_eq, @decide_eq_false_iff_not, @Bool.not_eq_true', @Bool.not_eq_false', @Bool.and_eq_true, @Bool.or_eq_true, @Bool.and_eq_false_iff, @Bool.or_eq_false_iff, @Bool.not_not, @Classical.not_not, @trivial⟩
theorem SZ : (type_of% @World.size_alloc) ∧ (type_of% @World.size_setCell) ∧ (type_of% @World.size_drew) ∧ (type_of% @ByteArray.size_append) ∧ (type_of% @ba_lit) ∧ (type_of% @List.length_cons.{0}) ∧ (type_of% @List.length_nil.{0}) ∧ (type_of% @trivial) := ⟨@World.size_alloc, @World.size_setCell, @World.size_drew, @ByteArray.size_append, @ba_lit, @List.length_cons.{0}, @List.length_nil.{0}, @trivial⟩
theorem RZ : (type_of% @RB0) ∧ (type_of% @RB1) ∧ (type_of% @RB2) ∧ (type_of% @RB3) ∧ (type_of% @RB4) ∧ (type_of% @RB5) ∧ (type_of% @RB6) ∧ (type_of% @RB7) ∧ (type_of% @RB8) ∧ (type_of% @RB9) ∧ (type_of% @RB10) ∧ (type_of% @RB11) ∧ (type_of% @RB12) ∧ (type_of% @RB13) ∧ (type_of% @RB14) ∧ (type_of% @RB15) ∧ (type_of% @RB16) ∧ (type_of% @RB17) ∧ (type_of% @RB18) ∧ (type_of% @RB19) ∧ (type_of% @RB20) ∧ (type_of% @RB21) ∧ (type_of% @RB22) ∧ (type_of% @RB23) ∧ (type_of% @RB24) ∧ (type_of% @RB25) ∧ (type_of% @RB26) ∧ (type_of% @RB27) ∧ (type_of% @SB0) ∧ (type_of% @SB1) ∧ (type_of% @SB2) ∧ (type_of% @SB3) ∧ (type_of% @MX) ∧ (type_of% @BF) ∧ (type_of% @TY0) ∧ (type_of% @TY1) ∧ (type_of% @TY2) ∧ (type_of% @TY3) ∧ (type_of% @TY4) ∧ (type_of% @TY5) ∧ (type_of% @TY6) ∧ (type_of% @TY7) ∧ (type_of% @TY8) ∧ (type_of% @TY9) ∧ (type_of% @TY10) ∧ (type_of% @TY11) ∧ (type_of% @TY12) ∧ (type_of% @TY13) ∧ (type_of% @TY14) ∧ (type_of% @TY15) ∧ (type_of% @trivial) := ⟨@RB0, @RB1, @RB2, @RB3, @RB4, @RB5, @RB6, @RB7, @RB8, @RB9, @RB10, @RB11, @RB12, @RB13, @RB14, @RB15, @RB16, @RB17, @RB18, @RB19, @RB20, @RB21, @RB22, @RB23, @RB24, @RB25, @RB26, @RB27, @SB0, @SB1, @SB2, @SB3, @MX, @BF, @TY0, @TY1, @TY2, @TY3, @TY4, @TY5, @TY6, @TY7, @TY8, @TY9, @TY10, @TY11, @TY12, @TY13, @TY14, @TY15, @trivial⟩
end Go.Proofs.YtbdkggnajipdhaaDoor
/- Regions that draw their order, with several operations that write: readers first, then the writers in whatever order. -/
namespace Go.Proofs.YtbdkggnajipdhaaDoor
open Go.RowKit
section
variable {P : Program} {n : Nat} {ops : Array Oper} {Q : Exit → Sl → World → Prop} {S : World → Prop} {σ : Sl} {w : World} {fuel : Nat} {listed : Array Bool}
/-- What is left of a region, whatever order is drawn. -/
def Ord (P : Program) (n : Nat) (ops : Array Oper) (Q : Exit → Sl → World → Prop) (S : World → Prop) (fuel : Nat) (listed : Array Bool) (σ : Sl) (w : World) : Prop :=
  ∀ a, Fr n σ a → wpAnyH P .any ops (lift n Q) S fuel listed a w
@[congr] theorem Ord_congr {σ σ' : Sl} {w w' : World} (h : σ = σ') (h' : w = w') : Ord P n ops Q S fuel listed σ w = Ord P n ops Q S fuel listed σ' w' := by rw [h, h']
theorem Raw_ord (S : World → Prop) (m : Nat) (hsz : ops.size = m) {id : Nat} (hm : P.follows .mixedOrders = true) (h : Ord P n ops Q S m (Array.replicate m false) σ w.drew) : Raw P n (.region id ops true) Q σ w := by
  intro a hf
  subst hsz
  exact wp_region_held (S := S) hm (h a hf)
theorem Ord_take (i : Nat) {d : Option Nat} {op : Op} {ty : TypeId} {p : String} {af : Array Edge} {v : Value} (hi : ops[i]? = some ⟨d, op, ty, p, af, none⟩)
    (hs : Region.noSelect ops = true) (hf : Region.free .any ops listed i = true) (hr : (Region.ready .any ops listed).contains i = true)
    (hQ : ∀ c σ w, ¬ Q (.panic c) σ w) (hS : S w) (hv : ∀ w', S w' → run1 P op ty σ w' = .ok (.value v) w')
    (h : Ord P n ops Q S fuel (listed.setIfInBounds i true) (put n σ d v) w) : Ord P n ops Q S (fuel + 1) listed σ w := by
  intro a hfr
  refine wpAnyH_take hi hs hf hr ?_ (v := v) ?_ hS (h _ (hfr.put d v))
  · rintro c a w ⟨σ', _, hq⟩
    exact absurd hq (hQ _ _ _)
  · refine .inl ⟨wanted_none rfl, fun w' hw' => ?_⟩
    have := hv w' hw'
    rw [hfr.eval]
    exact this
def OpO (P : Program) (n : Nat) (ops : Array Oper) (Q : Exit → Sl → World → Prop) (S : World → Prop) (fuel : Nat) (listed : Array Bool) (σ : Sl) (w : World) (i : Nat) : Prop :=
  ∀ a, Fr n σ a → wpOp P ops (lift n Q) i (fun a' w' => S w' ∧ wpAnyH P .any ops (lift n Q) S fuel (listed.setIfInBounds i true) a' w') a w
theorem OpO_of (i : Nat) {d : Option Nat} {op : Op} {ty : TypeId} {p : String} {af : Array Edge} (hi : ops[i]? = some ⟨d, op, ty, p, af, none⟩)
    (h : Okv P (fun v w' => S w' ∧ Ord P n ops Q S fuel (listed.setIfInBounds i true) (put n σ d v) w') (run1 P op ty σ w)) : OpO P n ops Q S fuel listed σ w i := by
  intro a hfr
  unfold wpOp
  simp only [hi]
  rw [if_pos (wanted_none rfl)]
  exact .inl (Oper.wp_of_Okv hfr (o := ⟨d, op, ty, p, af, none⟩) h fun v w' hE => ⟨hE.1, hE.2 _ (hfr.put d v)⟩)
theorem Ord_all (rs : List Nat) (hr : Region.ready .any ops listed = rs) (hne : rs ≠ []) (h : ∀ i ∈ rs, OpO P n ops Q S fuel listed σ w i) : Ord P n ops Q S (fuel + 1) listed σ w :=
  fun a hf => wpAnyH_all hr hne fun i hi => h i hi a hf
theorem Ord_one (i : Nat) {d : Option Nat} {op : Op} {ty : TypeId} {p : String} {af : Array Edge} (hr : Region.ready .any ops listed = [i]) (hi : ops[i]? = some ⟨d, op, ty, p, af, none⟩)
    (h : Okv P (fun v w' => S w' ∧ Ord P n ops Q S fuel (listed.setIfInBounds i true) (put n σ d v) w') (run1 P op ty σ w)) : Ord P n ops Q S (fuel + 1) listed σ w :=
  Ord_all [i] hr (by simp) fun j hj => by
    obtain rfl : j = i := by simpa using hj
    exact OpO_of j hi h
theorem Ord_done (hr : Region.ready .any ops listed = []) (h : Q .normal σ w) : Ord P n ops Q S fuel listed σ w :=
  fun _ hf => wpAnyH_done hr ⟨σ, hf, h⟩ fuel
theorem upd_comm (σ : Sl) {i j : Nat} (h : i ≠ j) (u v : Value) : upd (upd σ i u) j v = upd (upd σ j v) i u := by
  funext k
  simp only [upd_apply]
  by_cases h1 : k = j
  · rw [if_pos h1, if_neg (by omega), if_pos h1]
  · rw [if_neg h1, if_neg h1]
/-- Two writers, in either order. T says which of them are done, with what, and where the world stands. -/
theorem Ord_two {α β : Type} (T : Option α → Option β → World → Prop) (vi : α → Value) (vj : β → Value) (i j di dj : Nat) {opi opj : Op} {tyi tyj : TypeId} {pi pj : String} {afi afj : Array Edge}
    (hi : ops[i]? = some ⟨some di, opi, tyi, pi, afi, none⟩) (hj : ops[j]? = some ⟨some dj, opj, tyj, pj, afj, none⟩)
    (hij : i ≠ j) (hdij : di ≠ dj) (hni : di < n) (hnj : dj < n)
    (hr : Region.ready .any ops listed = [i, j]) (hri : Region.ready .any ops (listed.setIfInBounds i true) = [j]) (hrj : Region.ready .any ops (listed.setIfInBounds j true) = [i])
    (h0 : T none none w)
    (si : ∀ y w1 σ', (∀ s, s ≠ di → s ≠ dj → σ' s = σ s) → T none y w1 → Okv P (fun v w2 => ∃ x, v = vi x ∧ S w2 ∧ T (some x) y w2) (run1 P opi tyi σ' w1))
    (sj : ∀ x w1 σ', (∀ s, s ≠ di → s ≠ dj → σ' s = σ s) → T x none w1 → Okv P (fun v w2 => ∃ y, v = vj y ∧ S w2 ∧ T x (some y) w2) (run1 P opj tyj σ' w1))
    (hk : ∀ x y w1, T (some x) (some y) w1 → Ord P n ops Q S fuel ((listed.setIfInBounds i true).setIfInBounds j true) (upd (upd σ di (vi x)) dj (vj y)) w1) :
    Ord P n ops Q S (fuel + 2) listed σ w := by
  have Okv_mono : ∀ {R R' : Value → World → Prop} {r : Result Next}, (∀ v w, R v w → R' v w) → Okv P R r → Okv P R' r := by
    intro R R' r h hr
    cases r with
    | halt x w' => exact hr
    | ok nx w' =>
      cases nx
      case value v => exact h _ _ hr
      case skip => exact h _ _ hr
      case enter f args => exact hr.mono fun e w'' ⟨v, he, hv⟩ => ⟨v, he, h _ _ hv⟩
      all_goals exact hr
  refine Ord_all [i, j] hr (by simp) fun k hk' => ?_
  rcases (by simpa using hk' : k = i ∨ k = j) with rfl | rfl
  · refine OpO_of k hi (Okv_mono ?_ (si none w σ (fun _ _ _ => rfl) h0))
    rintro v w2 ⟨x, rfl, hS, hT⟩
    refine ⟨hS, Ord_one j hri hj (Okv_mono ?_ (sj (some x) w2 _ (fun s h1 h2 => ?_) hT))⟩
    · rintro v w3 ⟨y, rfl, hS', hT'⟩
      rw [put_some, put_some, if_pos hni, if_pos hnj]
      exact ⟨hS', hk x y w3 hT'⟩
    · rw [put_some, if_pos hni, upd_apply, if_neg h1]
  · refine OpO_of k hj (Okv_mono ?_ (sj none w σ (fun _ _ _ => rfl) h0))
    rintro v w2 ⟨y, rfl, hS, hT⟩
    refine ⟨hS, Ord_one i hrj hi (Okv_mono ?_ (si (some y) w2 _ (fun s h1 h2 => ?_) hT))⟩
    · rintro v w3 ⟨x, rfl, hS', hT'⟩
      rw [put_some, put_some, if_pos hnj, if_pos hni, upd_comm _ (Ne.symm hdij), Array.setIfInBounds_comm _ _ (Ne.symm hij)]
      exact ⟨hS', hk x y w3 hT'⟩
    · rw [put_some, if_pos hnj, upd_apply, if_neg h2]
theorem Okv_mono {R R' : Value → World → Prop} {r : Result Next} (h : ∀ v w, R v w → R' v w) (hr : Okv P R r) : Okv P R' r := by
  cases r with
  | halt x w' => exact hr
  | ok nx w' =>
    cases nx
    case value v => exact h _ _ hr
    case skip => exact h _ _ hr
    case enter f args => exact hr.mono fun e w'' ⟨v, he, hv⟩ => ⟨v, he, h _ _ hv⟩
    all_goals exact hr
/-! Many readers at once. -/
def optL (o : Option Oper) (l : List Oper) : List Oper := match o with
  | some o => o :: l
  | none => l
theorem optL_some (o : Oper) (l : List Oper) : optL (some o) l = o :: l := nr rfl
def opsL (ops : Array Oper) : List Nat → List Oper
  | [] => []
  | i :: r => optL ops[i]? (opsL ops r)
theorem opsL_nil (ops : Array Oper) : opsL ops [] = [] := nr rfl
theorem opsL_cons (ops : Array Oper) (i : Nat) (r : List Nat) : opsL ops (i :: r) = optL ops[i]? (opsL ops r) := nr rfl
def rdB (n : Nat) (ops : Array Oper) : Array Bool → List Nat → Bool
  | _, [] => true
  | L, i :: r => (match ops[i]? with
    | some ⟨some d, _, _, _, _, none⟩ => decide (d < n) && r.all fun j => (ops[j]?).bind (·.dst) != some d
    | _ => false) && Region.free .any ops L i && (Region.ready .any ops L).contains i && rdB n ops (L.setIfInBounds i true) r
def markL (L : Array Bool) (is : List Nat) : Array Bool := is.foldl (fun L i => L.setIfInBounds i true) L
theorem V_keep {τ : Sl} {d : Nat} : ∀ (is : List Nat) (σ : Sl), (is.all fun j => (ops[j]?).bind (·.dst) != some d) = true → V P n w (opsL ops is) σ (fun σ' => σ' = τ) → τ d = σ d
  | [], σ, _, h => by rw [← show σ = τ from h]
  | i :: r, σ, hd, h => by
    rw [List.all_cons, Bool.and_eq_true] at hd
    rw [opsL_cons] at h
    cases ho : ops[i]? with
    | none => rw [ho] at h; exact V_keep r σ hd.2 h
    | some o =>
      rw [ho, optL_some] at h
      obtain ⟨d', op, ty, p, af, g⟩ := o
      rw [V_op] at h
      have h1 := hd.1
      rw [ho] at h1
      have hne : d' ≠ some d := by simpa using h1
      cases hr : run1 P op ty σ w with
      | halt x w' => rw [hr] at h; exact h.elim
      | ok nx w' =>
        rw [hr] at h
        cases nx with
        | value v =>
          rw [V_keep r _ hd.2 h.2]
          cases d' with
          | none => rfl
          | some d' =>
            rw [put_some]
            split
            · rw [upd_apply, if_neg (fun e => hne (by rw [e]))]
            · rfl
        | _ => exact h.elim
theorem Ord_reads (is : List Nat) (f : Nat) {m : Nat} {τ : Sl} (hf : m = f + is.length) (hs : Region.noSelect ops = true) (hB : rdB n ops listed is = true)
    (hQ : ∀ c σ w, ¬ Q (.panic c) σ w) (hS : S w) (hv : ∀ w', S w' → V P n w' (opsL ops is) σ (fun σ' => σ' = τ))
    (h : Ord P n ops Q S f (markL listed is) τ w) : Ord P n ops Q S m listed σ w := by
  subst hf
  induction is generalizing listed σ with
  | nil => have e : σ = τ := hv w hS; rw [e]; exact h
  | cons i r ih =>
    rw [rdB, Bool.and_eq_true, Bool.and_eq_true, Bool.and_eq_true] at hB
    obtain ⟨⟨⟨h1, h2⟩, h3⟩, h4⟩ := hB
    cases ho : ops[i]? with
    | none => rw [ho] at h1; cases h1
    | some o =>
      obtain ⟨d', op, ty, p, af, g⟩ := o
      rw [ho] at h1
      cases d' with
      | none => cases h1
      | some d =>
      cases g with
      | some g => cases h1
      | none =>
      simp only [Bool.and_eq_true, decide_eq_true_eq] at h1
      obtain ⟨hd, hr⟩ := h1
      have key : ∀ w', S w' → run1 P op ty σ w' = .ok (.value (τ d)) w' ∧ V P n w' (opsL ops r) (put n σ (some d) (τ d)) (fun σ' => σ' = τ) := by
        intro w' hw'
        have hv := hv w' hw'
        rw [opsL_cons, ho, optL_some, V_op] at hv
        cases hr1 : run1 P op ty σ w' with
        | halt x w2 => rw [hr1] at hv; exact hv.elim
        | ok nx w2 =>
          rw [hr1] at hv
          cases nx with
          | value v =>
            obtain ⟨rfl, hv⟩ := hv
            have e := V_keep r _ hr hv
            rw [put_some, if_pos hd, upd_same] at e
            rw [e]
            exact ⟨rfl, hv⟩
          | _ => exact hv.elim
      exact Ord_take i ho hs h2 h3 hQ hS (fun w' hw' => (key w' hw').1) (ih h4 (fun w' hw' => (key w' hw').2) h)
/-! Cutting a proof at a place where several ways meet. -/
theorem E_mono {K K' : Sl → World → Prop} (h : ∀ σ w, K σ w → K' σ w) : ∀ (l : List Oper) (σ : Sl) (w : World), E P n ops l σ w K → E P n ops l σ w K'
  | [], σ, w, hE => h _ _ hE
  | ⟨d, op, ty, p, af, none⟩ :: r, σ, w, hE => Okv_mono (fun _ _ hv => E_mono h r _ _ hv) hE
  | ⟨d, op, ty, p, af, some (j, b)⟩ :: r, σ, w, hE => by
    rw [E_opg, GB] at *
    split
    · rename_i hg; rw [if_pos hg] at hE; exact Okv_mono (fun _ _ hv => E_mono h r _ _ hv) hE
    · rename_i hg; rw [if_neg hg] at hE; exact E_mono h r _ _ hE
theorem Raw_mono {Q Q' : Exit → Sl → World → Prop} {c : Code} (h : ∀ e σ w, Q e σ w → Q' e σ w) (hr : Raw P n c Q σ w) : Raw P n c Q' σ w :=
  fun a hf => wp_mono (hr a hf) fun e _ w' ⟨σ', hf', hq⟩ => ⟨σ', hf', h e σ' w' hq⟩
theorem W_mono : ∀ (c : Code) {Q Q' : Exit → Sl → World → Prop} {σ : Sl} {w : World}, (∀ e σ w, Q e σ w → Q' e σ w) → W P n c Q σ w → W P n c Q' σ w := by
  intro c
  induction c with
  | skip => intro Q Q' σ w h hw; exact h _ _ _ hw
  | region id ops draw =>
    intro Q Q' σ w h hw
    cases draw with
    | true => exact Raw_mono h hw
    | false => exact E_mono (fun σ w hk => h _ _ _ hk) _ _ _ hw
  | seq x y ihx ihy =>
    intro Q Q' σ w h hw
    refine ihx (fun e σ' w' hq => ?_) hw
    cases e
    case normal => exact ihy h hq
    all_goals exact h _ _ _ hq
  | cond c x y ihx ihy =>
    intro Q Q' σ w h hw
    rw [W_cond] at *
    generalize ev σ c = v at *
    cases v with
    | bool t => exact ⟨fun ht => ihx h (hw.1 ht), fun ht => ihy h (hw.2 ht)⟩
    | _ => exact hw.elim
  | block id c ih =>
    intro Q Q' σ w h hw
    refine ih (fun e σ' w' hq => ?_) hw
    cases e
    case exit id' =>
      simp only [inX] at *
      split
      · rename_i he; rw [if_pos he] at hq; exact h _ _ _ hq
      · rename_i he; rw [if_neg he] at hq; exact h _ _ _ hq
    all_goals exact h _ _ _ hq
  | exit id => intro Q Q' σ w h hw; exact h _ _ _ hw
  | ret => intro Q Q' σ w h hw; exact h _ _ _ hw
  | goto l => intro Q Q' σ w h hw; exact h _ _ _ hw
  | label l => intro Q Q' σ w h hw; exact h _ _ _ hw
  | _ => intro Q Q' σ w h hw; exact Raw_mono h hw
def cutX (J : Sl → World → Prop) (Q : Exit → Sl → World → Prop) : Exit → Sl → World → Prop
  | .normal, σ, w => J σ w
  | e, σ, w => Q e σ w
theorem cutX_normal {J : Sl → World → Prop} : cutX J Q .normal σ w = J σ w := nr rfl
theorem cutX_ret {J : Sl → World → Prop} : cutX J Q .ret σ w = Q .ret σ w := nr rfl
theorem cutX_exit {J : Sl → World → Prop} {id : Nat} : cutX J Q (.exit id) σ w = Q (.exit id) σ w := nr rfl
@[congr] theorem cutX_congr {J : Sl → World → Prop} {e : Exit} {σ σ' : Sl} {w w' : World} (h : σ = σ') (h' : w = w') : cutX J Q e σ w = cutX J Q e σ' w' := by rw [h, h']
theorem W_cut {c : Code} (J : Sl → World → Prop) (h2 : ∀ σ w, J σ w → Q .normal σ w) (h1 : W P n c (cutX J Q) σ w) : W P n c Q σ w :=
  W_mono c (fun e σ' w' hq => by
    cases e
    case normal => exact h2 _ _ hq
    all_goals exact hq) h1
/-- The same where ways meet at the end and at one exit. -/
def cut2X (id : Nat) (J Je : Sl → World → Prop) (Q : Exit → Sl → World → Prop) : Exit → Sl → World → Prop
  | .normal, σ, w => J σ w
  | .exit id', σ, w => if id' = id then Je σ w else Q (.exit id') σ w
  | e, σ, w => Q e σ w
theorem cut2X_normal {id : Nat} {J Je : Sl → World → Prop} : cut2X id J Je Q .normal σ w = J σ w := nr rfl
theorem cut2X_ret {id : Nat} {J Je : Sl → World → Prop} : cut2X id J Je Q .ret σ w = Q .ret σ w := nr rfl
theorem cut2X_same {id : Nat} {J Je : Sl → World → Prop} : cut2X id J Je Q (.exit id) σ w = Je σ w := if_pos rfl
theorem cut2X_ne {id id' : Nat} {J Je : Sl → World → Prop} (h : id' ≠ id) : cut2X id J Je Q (.exit id') σ w = Q (.exit id') σ w := if_neg h
@[congr] theorem cut2X_congr {id : Nat} {J Je : Sl → World → Prop} {e : Exit} {σ σ' : Sl} {w w' : World} (h : σ = σ') (h' : w = w') : cut2X id J Je Q e σ w = cut2X id J Je Q e σ' w' := by rw [h, h']
end
end Go.Proofs.YtbdkggnajipdhaaDoor
/- Rows of cells that are owned and grow; lists of records in a row. No program in sight. -/
namespace Go.Proofs.YtbdkggnajipdhaaDoor
open Go.RowKit
/-- What owns something is a row. -/
theorem owns_row {w : World} {base size n c : Nat} {e : TypeId} {A : Option Addr} {xs : List Value} (h : w.ownsRow base e size (.slice A n c) n xs) (hn : 0 < n) : ∃ g, A = some ⟨g, 0, none⟩ ∧ base ≤ g ∧ Row w g e xs ∧ n ≤ c ∧ c ≤ maxLen := by
  rcases h.2 with ⟨_, h0⟩ | ⟨g, cap, cur, he, hb, hg, hnc, hcm, _, ht⟩
  · omega
  · injection he with h1 h2 h3
    subst h3
    exact ⟨g, h1, hb, ⟨cur, hg, _, by rw [← ht]; exact (List.take_append_drop _ _).symm⟩, hnc, hcm⟩
theorem grown_below {w w' : World} {row : Option Nat} {B : Nat} (h : w.grownBy w' row) (hr : ∀ g, row = some g → B ≤ g) (hB : B ≤ w.heap.size) : Below B w w' :=
  ⟨h.os, h.tape, h.output, h.size, fun k hk => h.block k (Nat.lt_of_lt_of_le hk hB) (fun e => by have := hr k e.symm; omega)⟩
theorem owns_keep {w w' : World} {base e size n : Nat} {v : Value} {xs : List Value} (h : w.ownsRow base e size v n xs) (hb : ∀ g, v.ownBlock = some g → w'.heap[g]? = w.heap[g]?) : w'.ownsRow base e size v n xs := by
  refine ⟨h.1, ?_⟩
  rcases h.2 with h0 | ⟨g, cap, cur, rfl, h1, h2, h3⟩
  · exact .inl h0
  · exact .inr ⟨g, cap, cur, rfl, h1, (hb g rfl).trans h2, h3⟩
theorem owns_ge {w : World} {base e size n : Nat} {v : Value} {xs : List Value} (h : w.ownsRow base e size v n xs) {g : Nat} (hg : v.ownBlock = some g) : base ≤ g ∧ g < w.heap.size := by
  rcases h.2 with ⟨rfl, _⟩ | ⟨g', cap, cur, rfl, h1, h2, h3⟩
  · cases hg
  · simp only [Value.ownBlock, Option.some.injEq] at hg
    subst hg
    exact ⟨h1, (Array.getElem?_eq_some_iff.1 h2).1⟩
section
variable {P : Program} {w w' : World} {base e sz n c : Nat} {A : Option Addr} {xs news : List Value}
theorem owns_nil (w : World) (base e sz : Nat) : w.ownsRow base e sz (.slice none 0 0) 0 [] := ⟨by simp, .inl ⟨rfl, rfl⟩⟩
theorem owns_below {v : Value} (h : w.ownsRow base e sz v n xs) (hb : Below w.heap.size w w') : w'.ownsRow base e sz v n xs :=
  owns_keep h fun g hg => hb.block g (owns_ge h hg).2
theorem push1 {T ty bytes : Nat} (h : w.ownsRow base e sz (.slice A n c) n xs) (hb : base ≤ w.heap.size) (hI : sliceI P T = some (e, sz, bytes)) (hn : news.length = sz) (h1 : ∀ u ∈ news, u.oneCell' = true)
    (h63 : n + 1 ≤ 1000000000) (hby : bytes ≤ 10000) :
    ∃ A' c' w2, vAppend P T T ty (.slice A n c) (.slice (some ⟨w.heap.size, 0, none⟩) 1 1) (w.alloc (.cells news.toArray e)) = .ok (.value (.slice A' (n + 1) c')) w2 ∧
      w2.ownsRow base e sz (.slice A' (n + 1) c') (n + 1) (xs ++ news) ∧ Below base w w2 ∧ w.heap.size ≤ w2.heap.size := by
  have hba := below_alloc w (.cells news.toArray e)
  obtain ⟨A', c', w2, he, ho, hg', hbk⟩ := vAppend_own (P := P) (ty := ty) (m := 1) (c := 1) (b := w.heap.size) (o := 0) (news := news) hI (owns_below h hba) (by rw [hn, Nat.one_mul])
    (fun j u hu => by rw [Nat.zero_add, (new_block w news.toArray e).1 j]; simpa using hu) h1 h63 hby (by rw [World.size_alloc]; omega)
  have hgrow : Below base (w.alloc (.cells news.toArray e)) w2 := grown_below hg' (fun g hg => (owns_ge h hg).1) (by rw [World.size_alloc]; omega)
  have hB := (hba.mono hb).trans hgrow
  exact ⟨A', c', w2, he, ho, hB, hB.size⟩
end
end Go.Proofs.YtbdkggnajipdhaaDoor
/- Regions that draw their order: slot readers (in any world alike), and a chain behind them. -/
namespace Go.Proofs.YtbdkggnajipdhaaDoor
open Go.RowKit
section
variable {P : Program} {n : Nat} {ops : Array Oper} {Q : Exit → Sl → World → Prop} {σ : Sl} {w : World}
def chB (ops : Array Oper) : Array Bool → List Nat → Bool
  | L, [] => decide (Region.ready .any ops L = [])
  | L, j :: r => decide (Region.ready .any ops L = [j]) && (match ops[j]? with
    | some ⟨_, _, _, _, _, none⟩ => true
    | _ => false) && chB ops (L.setIfInBounds j true) r
/-! The same where the readers read memory: S is what all worlds of the chain meet. Guarded operations may stand in the chain. -/
def chG (ops : Array Oper) : Array Bool → List Nat → Bool
  | L, [] => decide (Region.ready .any ops L = [])
  | L, j :: r => decide (Region.ready .any ops L = [j]) && (ops[j]?).isSome && chG ops (L.setIfInBounds j true) r
def EC (P : Program) (n : Nat) (ops : Array Oper) (S : World → Prop) : List Oper → Sl → World → (Sl → World → Prop) → Prop
  | [], σ, w, K => K σ w
  | ⟨d, op, ty, _, _, g⟩ :: r, σ, w, K => match g with
    | none => Okv P (fun v w' => S w' ∧ EC P n ops S r (put n σ d v) w' K) (run1 P op ty σ w)
    | some (j, b) => GB P (isB b (gval σ (gslot ops j))) (run1 P op ty σ w) (fun v w' => S w' ∧ EC P n ops S r (put n σ d v) w' K) w
theorem EC_nil (S : World → Prop) (σ : Sl) (w : World) (K : Sl → World → Prop) : EC P n ops S [] σ w K = K σ w := nr rfl
theorem EC_op (S : World → Prop) (d : Option Nat) (op : Op) (ty : TypeId) (p : String) (af : Array Edge) (r : List Oper) (σ : Sl) (w : World) (K : Sl → World → Prop) :
    EC P n ops S (⟨d, op, ty, p, af, none⟩ :: r) σ w K = Okv P (fun v w' => S w' ∧ EC P n ops S r (put n σ d v) w' K) (run1 P op ty σ w) := nr rfl
theorem EC_opg (S : World → Prop) (d : Option Nat) (op : Op) (ty : TypeId) (p : String) (af : Array Edge) (j : Nat) (b : Bool) (r : List Oper) (σ : Sl) (w : World) (K : Sl → World → Prop) :
    EC P n ops S (⟨d, op, ty, p, af, some (j, b)⟩ :: r) σ w K = GB P (isB b (gval σ (gslot ops j))) (run1 P op ty σ w) (fun v w' => S w' ∧ EC P n ops S r (put n σ d v) w' K) w := nr rfl
@[congr] theorem EC_congr {S : World → Prop} {l : List Oper} {σ σ' : Sl} {w w' : World} {K : Sl → World → Prop} (h : σ = σ') (h' : w = w') : EC P n ops S l σ w K = EC P n ops S l σ' w' K := by rw [h, h']
theorem OpO_ofg {S : World → Prop} {fuel : Nat} {listed : Array Bool} (i : Nat) {d : Option Nat} {op : Op} {ty : TypeId} {p : String} {af : Array Edge} {j : Nat} {b : Bool} (hi : ops[i]? = some ⟨d, op, ty, p, af, some (j, b)⟩)
    (h : GB P (isB b (gval σ (gslot ops j))) (run1 P op ty σ w) (fun v w' => S w' ∧ Ord P n ops Q S fuel (listed.setIfInBounds i true) (put n σ d v) w') w) : OpO P n ops Q S fuel listed σ w i := by
  intro a hfr
  unfold wpOp
  simp only [hi]
  rw [wanted_some hfr rfl]
  unfold GB at h
  split
  · rename_i hg
    rw [if_pos hg] at h
    exact .inl (Oper.wp_of_Okv hfr (o := ⟨d, op, ty, p, af, some (j, b)⟩) h fun v w' hE => ⟨hE.1, hE.2 _ (hfr.put d v)⟩)
  · rename_i hg
    rw [if_neg hg] at h
    exact ⟨h.1, h.2 _ (hfr.put d undef)⟩
theorem GB_mono {g : Bool} {R R' : Value → World → Prop} {r : Result Next} (h : ∀ v w, R v w → R' v w) (hr : GB P g r R w) : GB P g r R' w := by
  unfold GB at *
  split
  · rename_i hg
    rw [if_pos hg] at hr
    exact Okv_mono h hr
  · rename_i hg
    rw [if_neg hg] at hr
    exact h _ _ hr
theorem Ord_chainS (S : World → Prop) : ∀ (js : List Nat) (listed : Array Bool) (σ : Sl) (w : World), chG ops listed js = true → EC P n ops S (opsL ops js) σ w (Q .normal) → Ord P n ops Q S js.length listed σ w
  | [], L, σ, w, h, hE => Ord_done (of_decide_eq_true h) hE
  | j :: r, L, σ, w, h, hE => by
    rw [chG, Bool.and_eq_true, Bool.and_eq_true] at h
    obtain ⟨⟨h1, h2⟩, h3⟩ := h
    rw [opsL_cons] at hE
    cases ho : ops[j]? with
    | none => rw [ho] at h2; cases h2
    | some o =>
      obtain ⟨d, op, ty, p, af, g⟩ := o
      refine Ord_all [j] (of_decide_eq_true h1) (by simp) fun k hk => ?_
      obtain rfl : k = j := by simpa using hk
      cases g with
      | some g =>
        obtain ⟨gj, gb⟩ := g
        rw [ho, optL_some, EC_opg] at hE
        exact OpO_ofg k ho (GB_mono (fun v w' hh => ⟨hh.1, Ord_chainS S r _ _ _ h3 hh.2⟩) hE)
      | none =>
        rw [ho, optL_some, EC_op] at hE
        exact OpO_of k ho (Okv_mono (fun v w' hh => ⟨hh.1, Ord_chainS S r _ _ _ h3 hh.2⟩) hE)
theorem Raw_rcS (S : World → Prop) (is js : List Nat) {τ : Sl} {id : Nat} (hm : P.follows .mixedOrders = true) (hsz : ops.size = js.length + is.length) (hs : Region.noSelect ops = true) (hB : rdB n ops (Array.replicate (js.length + is.length) false) is = true)
    (hc : chG ops (markL (Array.replicate (js.length + is.length) false) is) js = true) (hQ : ∀ c σ w, ¬ Q (.panic c) σ w) (hS : S w.drew)
    (hv : ∀ w', S w' → V P n w' (opsL ops is) σ (fun σ' => σ' = τ)) (h : EC P n ops S (opsL ops js) τ w.drew (Q .normal)) : Raw P n (.region id ops true) Q σ w :=
  Raw_ord S _ hsz hm (Ord_reads is js.length rfl hs hB hQ hS hv (Ord_chainS S js _ _ _ hc h))
end
end Go.Proofs.YtbdkggnajipdhaaDoor
/- Regions that draw their order, where those that write wait for those that read: the pure ones are taken first, at the values that they yield in the world at hand. -/
namespace Go.Proofs.YtbdkggnajipdhaaDoor
open Go.RowKit
section
variable {P : Program} {md : Region.Mode} {ops : Array Oper} {Q : Exit → Act → World → Prop} {pl : List Nat}
/-- Whatever order is picked from here on; the operations of the list pl leave the world as it is. -/
def wpAnyT (P : Program) (md : Region.Mode) (ops : Array Oper) (Q : Exit → Act → World → Prop) (pl : List Nat) : Nat → Array Bool → Act → World → Prop
  | 0, listed, a, w => Region.ready md ops listed = [] ∧ Q .normal a w
  | fuel + 1, listed, a, w =>
    (Region.ready md ops listed = [] → Q .normal a w) ∧
    ∀ i ∈ Region.ready md ops listed, wpOp P ops Q i (fun a' w' => (pl.contains i = true → w' = w) ∧ wpAnyT P md ops Q pl fuel (listed.setIfInBounds i true) a' w') a w
end
section
variable {P : Program} {n : Nat} {ops : Array Oper} {Q : Exit → Sl → World → Prop} {σ : Sl} {w : World} {fuel : Nat} {listed : Array Bool} {pl : List Nat}
def OrdT (P : Program) (n : Nat) (ops : Array Oper) (Q : Exit → Sl → World → Prop) (pl : List Nat) (fuel : Nat) (listed : Array Bool) (σ : Sl) (w : World) : Prop :=
  ∀ a, Fr n σ a → wpAnyT P .any ops (lift n Q) pl fuel listed a w
@[congr] theorem OrdT_congr {σ σ' : Sl} {w w' : World} (h : σ = σ') (h' : w = w') : OrdT P n ops Q pl fuel listed σ w = OrdT P n ops Q pl fuel listed σ' w' := by rw [h, h']
end
end Go.Proofs.YtbdkggnajipdhaaDoor
/- Frames: all blocks but the listed ones stay. -/
namespace Go.Proofs.YtbdkggnajipdhaaDoor
open Go.RowKit
set_option maxRecDepth 100000
/-- All blocks but the listed ones stay. -/
structure Kept (X : List Nat) (w w' : World) : Prop where
  os : w'.os = w.os
  tape : w'.tape = w.tape
  output : w'.output = w.output
  size : w.heap.size ≤ w'.heap.size
  block : ∀ k, k < w.heap.size → k ∉ X → w'.heap[k]? = w.heap[k]?
section
variable {X : List Nat} {a w w' : World}
theorem Kept.refl (X : List Nat) (w : World) : Kept X w w := ⟨rfl, rfl, rfl, Nat.le_refl _, fun _ _ _ => rfl⟩
theorem Kept.trans (h : Kept X a w) (k : Kept X w w') : Kept X a w' :=
  ⟨k.os.trans h.os, k.tape.trans h.tape, k.output.trans h.output, Nat.le_trans h.size k.size, fun g hg hr => (k.block g (Nat.lt_of_lt_of_le hg h.size) hr).trans (h.block g hg hr)⟩
theorem Kept.of_below (h : Below w.heap.size w w') : Kept X w w' := ⟨h.os, h.tape, h.output, h.size, fun g hg _ => h.block g hg⟩
theorem Kept.of_only {g : Nat} (h : Only g (g + 1) w w') (hg : g ∈ X) : Kept X w w' :=
  ⟨h.os, h.tape, h.output, h.size, fun k hk hr => h.block k hk (by have : k ≠ g := fun e => hr (e ▸ hg); omega)⟩
theorem Kept.alloc (h : Kept X a w) (o : Obj) : Kept X a (w.alloc o) := h.trans (Kept.of_below (below_alloc w o))
theorem Kept.drew (h : Kept X a w) : Kept X a w.drew := ⟨h.os, h.tape, h.output, h.size, h.block⟩
theorem Kept.setCell (h : Kept X a w) {p : Addr} (hp : p.block ∈ X) (v : Value) : Kept X a (w.setCell p v) :=
  h.trans (Kept.of_only (g := p.block) ((Only.refl p.block (p.block + 1) w).setCell (Nat.le_refl _) (Nat.lt_succ_self _) v) hp)
theorem Row.kept {g : Nat} {T : TypeId} {cs : List Value} (h : Row w g T cs) (k : Kept X w w') (hg : g ∉ X) : Row w' g T cs := h.of_block (k.block g h.lt hg)
/-- What is new may be listed too. -/
theorem Kept.less {Y : List Nat} (h : Kept X w w') (hY : ∀ k ∈ X, k < w.heap.size → k ∈ Y) : Kept Y w w' :=
  ⟨h.os, h.tape, h.output, h.size, fun k hk hr => h.block k hk fun hx => hr (hY k hx hk)⟩
theorem Kept.only {g : Nat} (h : Kept [g] w w') : Only g (g + 1) w w' := ⟨h.os, h.tape, h.output, h.size, fun k hk hr => h.block k hk (by simp; omega)⟩
theorem Kept.cell {g o : Nat} (h : Kept X w w') (hg : g < w.heap.size) (hr : g ∉ X) : w'.cell? ⟨g, o, none⟩ = w.cell? ⟨g, o, none⟩ := World.cell?_of_block (w := w) (h.block g hg hr)
theorem Kept.frozen {g o : Nat} (h : Kept X w w') (hg : g < w.heap.size) (hr : g ∉ X) : w'.frozen? ⟨g, o, none⟩ = w.frozen? ⟨g, o, none⟩ := World.frozen?_of_block (w := w) (h.block g hg hr)
end
theorem Arr.kept {X : List Nat} {w w' : World} {A : Option Addr} {sz : Nat} {Ls : List (List Value)} (h : Arr w A sz Ls) (k : Kept X w w') (hA : ∀ b o, A = some ⟨b, o, none⟩ → b ∉ X) : Arr w' A sz Ls := fun hn => by
  obtain ⟨b, o, e, hb, hc⟩ := h hn
  exact ⟨b, o, e, Nat.lt_of_lt_of_le hb k.size, fun i l hl j u hu => (k.cell hb (hA b o e)).trans (hc i l hl j u hu)⟩
end Go.Proofs.YtbdkggnajipdhaaDoor
/- The plain specification of a plan's check: names, levels. No program in sight. -/
namespace Go.Proofs.YtbdkggnajipdhaaDoor

/-- A level: prize, count, pack. -/
structure Lvl where
  prize : Int
  count : Int
  pack : Int
def Lvl.bad (P S before : Int) (v : Lvl) : Prop := v.prize < 1 ∨ before ≤ v.prize ∨ v.count < 1 ∨ P * S < v.count ∨ v.pack < 0 ∨ S < v.pack
instance (P S before : Int) (v : Lvl) : Decidable (v.bad P S before) := by unfold Lvl.bad; exact inferInstance
end Go.Proofs.YtbdkggnajipdhaaDoor
