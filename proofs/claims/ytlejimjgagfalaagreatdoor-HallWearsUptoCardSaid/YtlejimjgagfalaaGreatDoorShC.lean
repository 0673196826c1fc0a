import Derived.Test.YtlejimjgagfalaaGreatDoorStA
import Derived.Test.YtlejimjgagfalaaGreatDoorOpA
import Derived.Test.YtlejimjgagfalaaGreatDoorHaC
namespace Go.Proofs.YtlejimjgagfalaaGreatDoor
open Go Go.Den
set_option maxRecDepth 100000
def w18x0 : Memo := ⟨25, [], [], .slice (some ⟨0, 0, none⟩) 4 4, [.cells [.string ⟨⟨[97, 110, 110]⟩⟩, .string ⟨⟨[112, 111, 111, 108]⟩⟩, .int .i64 10, .int .i64 14, .string ⟨⟨[98, 111, 98]⟩⟩, .string ⟨⟨[112, 111, 111, 108]⟩⟩, .int .i64 8, .int .i64 12, .string ⟨⟨[99, 121]⟩⟩, .string ⟨⟨[112, 111, 111, 108]⟩⟩, .int .i64 12, .int .i64 16, .string ⟨⟨[100, 101, 101]⟩⟩, .string ⟨⟨[115, 110, 111, 111, 107, 101, 114]⟩⟩, .int .i64 0, .int .i64 8] 4 false false]⟩
theorem znB : memoIs Tryz.prog (ctxOf Tryz.prog) bl0 [] 10000 w18x0 = true := by kernel_rfl
theorem znC : Ret Tryz.prog w18x0.f w18x0.args (smallH (bOf bl0) w18x0.blks) w18x0.v (addL (smallH (bOf bl0) w18x0.blks) w18x0.ys) := zaJ za6 zaI znB
def w17x1 : Memo := ⟨24, [.slice (some ⟨0, 0, none⟩) 4 4, .string ⟨⟨[112, 111, 111, 108]⟩⟩], [.cells [.string ⟨⟨[97, 110, 110]⟩⟩, .string ⟨⟨[112, 111, 111, 108]⟩⟩, .int .i64 10, .int .i64 14, .string ⟨⟨[98, 111, 98]⟩⟩, .string ⟨⟨[112, 111, 111, 108]⟩⟩, .int .i64 8, .int .i64 12, .string ⟨⟨[99, 121]⟩⟩, .string ⟨⟨[112, 111, 111, 108]⟩⟩, .int .i64 12, .int .i64 16, .string ⟨⟨[100, 101, 101]⟩⟩, .string ⟨⟨[115, 110, 111, 111, 107, 101, 114]⟩⟩, .int .i64 0, .int .i64 8] 4 false false], .tuple ⟨[.int .i64 2, .int .i64 10, .int .i64 0]⟩, []⟩
theorem znD : memoIs Tryz.prog (ctxOf Tryz.prog) bl0 [] 10000 w17x1 = true := by kernel_rfl
theorem znE : Ret Tryz.prog w17x1.f w17x1.args (smallH (bOf bl0) w17x1.blks) w17x1.v (addL (smallH (bOf bl0) w17x1.blks) w17x1.ys) := zaJ za6 zaI znD
def w20x2 : Memo := ⟨27, [], [], .slice (some ⟨0, 0, none⟩) 3 3, [.cells [.string ⟨⟨[97]⟩⟩, .string ⟨⟨[112, 111, 111, 108]⟩⟩, .string ⟨⟨[98]⟩⟩, .string ⟨⟨[112, 111, 111, 108]⟩⟩, .string ⟨⟨[99]⟩⟩, .string ⟨⟨[115, 110, 111, 111, 107, 101, 114]⟩⟩] 2 false false]⟩
theorem znx : memoIs Tryz.prog (ctxOf Tryz.prog) bl0 [] 10000 w20x2 = true := by kernel_rfl
theorem zny : Ret Tryz.prog w20x2.f w20x2.args (smallH (bOf bl0) w20x2.blks) w20x2.v (addL (smallH (bOf bl0) w20x2.blks) w20x2.ys) := zaJ za6 zaI znx
def w19x3 : Memo := ⟨26, [.slice (some ⟨0, 0, none⟩) 3 3, .slice (some ⟨2, 0, none⟩) 4 4], [.cells [.string ⟨⟨[97]⟩⟩, .string ⟨⟨[112, 111, 111, 108]⟩⟩, .string ⟨⟨[98]⟩⟩, .string ⟨⟨[112, 111, 111, 108]⟩⟩, .string ⟨⟨[99]⟩⟩, .string ⟨⟨[115, 110, 111, 111, 107, 101, 114]⟩⟩] 2 false false, .cells [.string ⟨⟨[97, 110, 110]⟩⟩, .string ⟨⟨[112, 111, 111, 108]⟩⟩, .int .i64 10, .int .i64 14, .string ⟨⟨[98, 111, 98]⟩⟩, .string ⟨⟨[112, 111, 111, 108]⟩⟩, .int .i64 8, .int .i64 12, .string ⟨⟨[99, 121]⟩⟩, .string ⟨⟨[112, 111, 111, 108]⟩⟩, .int .i64 12, .int .i64 16, .string ⟨⟨[100, 101, 101]⟩⟩, .string ⟨⟨[115, 110, 111, 111, 107, 101, 114]⟩⟩, .int .i64 0, .int .i64 8] 4 false false], .tuple ⟨[.slice (some ⟨4, 0, none⟩) 4 4, .int .i64 0]⟩, [.cells [.int .i64 1, .int .i64 0, .int .i64 0, .int .i64 2] 1 false false]⟩
theorem znz : memoIs Tryz.prog (ctxOf Tryz.prog) bl0 [] 10000 w19x3 = true := by kernel_rfl
theorem znA : Ret Tryz.prog w19x3.f w19x3.args (smallH (bOf bl0) w19x3.blks) w19x3.v (addL (smallH (bOf bl0) w19x3.blks) w19x3.ys) := zaJ za6 zaI znz
def w21x4 : Memo := ⟨28, [.slice (some ⟨0, 0, none⟩) 3 3, .slice (some ⟨2, 0, none⟩) 5 5], [.cells [.string ⟨⟨[97]⟩⟩, .string ⟨⟨[112, 111, 111, 108]⟩⟩, .string ⟨⟨[98]⟩⟩, .string ⟨⟨[112, 111, 111, 108]⟩⟩, .string ⟨⟨[99]⟩⟩, .string ⟨⟨[115, 110, 111, 111, 107, 101, 114]⟩⟩] 2 false false, .cells [.string ⟨⟨[97, 110, 110]⟩⟩, .string ⟨⟨[112, 111, 111, 108]⟩⟩, .int .i64 10, .int .i64 14, .string ⟨⟨[98, 111, 98]⟩⟩, .string ⟨⟨[112, 111, 111, 108]⟩⟩, .int .i64 8, .int .i64 12, .string ⟨⟨[99, 121]⟩⟩, .string ⟨⟨[112, 111, 111, 108]⟩⟩, .int .i64 12, .int .i64 16, .string ⟨⟨[100, 101, 101]⟩⟩, .string ⟨⟨[115, 110, 111, 111, 107, 101, 114]⟩⟩, .int .i64 0, .int .i64 8, .string ⟨⟨[101, 118, 101]⟩⟩, .string ⟨⟨[112, 111, 111, 108]⟩⟩, .int .i64 9, .int .i64 11] 4 true false], .tuple ⟨[.string ⟨⟨[112, 111, 111, 108]⟩⟩, .int .i64 10, .int .i64 0]⟩, []⟩
theorem znv : memoIs Tryz.prog (ctxOf Tryz.prog) bl0 [] 10000 w21x4 = true := by kernel_rfl
theorem znw : Ret Tryz.prog w21x4.f w21x4.args (smallH (bOf bl0) w21x4.blks) w21x4.v (addL (smallH (bOf bl0) w21x4.blks) w21x4.ys) := zaJ za6 zaI znv
def w22x5 : Memo := ⟨29, [.slice (some ⟨0, 0, none⟩) 3 3, .slice (some ⟨2, 0, none⟩) 4 4, .agg ⟨[.string ⟨⟨[101, 118, 101]⟩⟩, .string ⟨⟨[112, 111, 111, 108]⟩⟩, .int .i64 14, .int .i64 18]⟩], [.cells [.string ⟨⟨[97]⟩⟩, .string ⟨⟨[112, 111, 111, 108]⟩⟩, .string ⟨⟨[98]⟩⟩, .string ⟨⟨[112, 111, 111, 108]⟩⟩, .string ⟨⟨[99]⟩⟩, .string ⟨⟨[115, 110, 111, 111, 107, 101, 114]⟩⟩] 2 false false, .cells [.string ⟨⟨[97, 110, 110]⟩⟩, .string ⟨⟨[112, 111, 111, 108]⟩⟩, .int .i64 10, .int .i64 14, .string ⟨⟨[98, 111, 98]⟩⟩, .string ⟨⟨[112, 111, 111, 108]⟩⟩, .int .i64 8, .int .i64 12, .string ⟨⟨[99, 121]⟩⟩, .string ⟨⟨[112, 111, 111, 108]⟩⟩, .int .i64 12, .int .i64 16, .string ⟨⟨[100, 101, 101]⟩⟩, .string ⟨⟨[115, 110, 111, 111, 107, 101, 114]⟩⟩, .int .i64 0, .int .i64 8] 4 false false], .tuple ⟨[.bool true, .int .i64 0]⟩, []⟩
theorem znt : memoIs Tryz.prog (ctxOf Tryz.prog) bl0 [] 10000 w22x5 = true := by kernel_rfl
theorem znu : Ret Tryz.prog w22x5.f w22x5.args (smallH (bOf bl0) w22x5.blks) w22x5.v (addL (smallH (bOf bl0) w22x5.blks) w22x5.ys) := zaJ za6 zaI znt
def w23x6 : Memo := ⟨30, [.slice (some ⟨0, 0, none⟩) 3 3, .slice (some ⟨2, 0, none⟩) 4 4, .string ⟨⟨[112, 111, 111, 108]⟩⟩], [.cells [.string ⟨⟨[97]⟩⟩, .string ⟨⟨[112, 111, 111, 108]⟩⟩, .string ⟨⟨[98]⟩⟩, .string ⟨⟨[112, 111, 111, 108]⟩⟩, .string ⟨⟨[99]⟩⟩, .string ⟨⟨[115, 110, 111, 111, 107, 101, 114]⟩⟩] 2 false false, .cells [.string ⟨⟨[97, 110, 110]⟩⟩, .string ⟨⟨[112, 111, 111, 108]⟩⟩, .int .i64 10, .int .i64 14, .string ⟨⟨[98, 111, 98]⟩⟩, .string ⟨⟨[112, 111, 111, 108]⟩⟩, .int .i64 8, .int .i64 12, .string ⟨⟨[99, 121]⟩⟩, .string ⟨⟨[112, 111, 111, 108]⟩⟩, .int .i64 12, .int .i64 16, .string ⟨⟨[100, 101, 101]⟩⟩, .string ⟨⟨[115, 110, 111, 111, 107, 101, 114]⟩⟩, .int .i64 0, .int .i64 8] 4 false false], .tuple ⟨[.slice (some ⟨4, 0, none⟩) 2 2, .int .i64 0]⟩, [.cells [.int .i64 0, .int .i64 10, .int .i64 14, .int .i64 99999] 2 true false]⟩
theorem znr : memoIs Tryz.prog (ctxOf Tryz.prog) bl0 [] 10000 w23x6 = true := by kernel_rfl
theorem zns : Ret Tryz.prog w23x6.f w23x6.args (smallH (bOf bl0) w23x6.blks) w23x6.v (addL (smallH (bOf bl0) w23x6.blks) w23x6.ys) := zaJ za6 zaI znr
def w24x7 : Memo := ⟨31, [.slice (some ⟨0, 0, none⟩) 3 3, .slice (some ⟨2, 0, none⟩) 4 4, .slice (some ⟨4, 0, none⟩) 2 2], [.cells [.string ⟨⟨[97]⟩⟩, .string ⟨⟨[112, 111, 111, 108]⟩⟩, .string ⟨⟨[98]⟩⟩, .string ⟨⟨[112, 111, 111, 108]⟩⟩, .string ⟨⟨[99]⟩⟩, .string ⟨⟨[115, 110, 111, 111, 107, 101, 114]⟩⟩] 2 false false, .cells [.string ⟨⟨[97, 110, 110]⟩⟩, .string ⟨⟨[112, 111, 111, 108]⟩⟩, .int .i64 10, .int .i64 14, .string ⟨⟨[98, 111, 98]⟩⟩, .string ⟨⟨[112, 111, 111, 108]⟩⟩, .int .i64 8, .int .i64 12, .string ⟨⟨[99, 121]⟩⟩, .string ⟨⟨[112, 111, 111, 108]⟩⟩, .int .i64 12, .int .i64 16, .string ⟨⟨[100, 101, 101]⟩⟩, .string ⟨⟨[115, 110, 111, 111, 107, 101, 114]⟩⟩, .int .i64 0, .int .i64 8] 4 false false, .cells [.string ⟨⟨[101, 118, 101]⟩⟩, .string ⟨⟨[112, 111, 111, 108]⟩⟩, .int .i64 4, .int .i64 9, .string ⟨⟨[102, 97, 121]⟩⟩, .string ⟨⟨[112, 111, 111, 108]⟩⟩, .int .i64 2, .int .i64 9] 4 false false], .tuple ⟨[.slice (some ⟨6, 0, none⟩) 2 2, .int .i64 0]⟩, [.cells [.int .i64 14, .int .i64 16] 1 true false]⟩
theorem znp : memoIs Tryz.prog (ctxOf Tryz.prog) bl0 [] 10000 w24x7 = true := by kernel_rfl
theorem znq : Ret Tryz.prog w24x7.f w24x7.args (smallH (bOf bl0) w24x7.blks) w24x7.v (addL (smallH (bOf bl0) w24x7.blks) w24x7.ys) := zaJ za6 zaI znp
def w25x8 : Memo := ⟨32, [.slice (some ⟨0, 0, none⟩) 4 4, .slice (some ⟨2, 0, none⟩) 4 4], [.cells [.int .i64 1, .int .i64 0, .int .i64 0, .int .i64 2] 1 false false, .cells [.int .i64 1, .int .i64 0, .int .i64 0, .int .i64 2] 1 false false], .bool true, []⟩
theorem znn : memoIs Tryz.prog (ctxOf Tryz.prog) bl0 [] 10000 w25x8 = true := by kernel_rfl
theorem zno : Ret Tryz.prog w25x8.f w25x8.args (smallH (bOf bl0) w25x8.blks) w25x8.v (addL (smallH (bOf bl0) w25x8.blks) w25x8.ys) := zaJ za6 zaI znn
def w26x9 : Memo := ⟨33, [.slice (some ⟨0, 0, none⟩) 2 2, .slice (some ⟨2, 0, none⟩) 2 2], [.cells [.int .i64 0, .int .i64 10, .int .i64 14, .int .i64 99999] 2 true false, .cells [.int .i64 0, .int .i64 10, .int .i64 14, .int .i64 99999] 2 false false], .bool true, []⟩
theorem znl : memoIs Tryz.prog (ctxOf Tryz.prog) bl0 [] 10000 w26x9 = true := by kernel_rfl
theorem znm : Ret Tryz.prog w26x9.f w26x9.args (smallH (bOf bl0) w26x9.blks) w26x9.v (addL (smallH (bOf bl0) w26x9.blks) w26x9.ys) := zaJ za6 zaI znl
def w25x10 : Memo := ⟨32, [.slice (some ⟨0, 0, none⟩) 2 2, .slice (some ⟨2, 0, none⟩) 2 2], [.cells [.int .i64 14, .int .i64 16] 1 true false, .cells [.int .i64 14, .int .i64 16] 1 false false], .bool true, []⟩
theorem zmj : memoIs Tryz.prog (ctxOf Tryz.prog) bl0 [] 10000 w25x10 = true := by kernel_rfl
theorem zmk : Ret Tryz.prog w25x10.f w25x10.args (smallH (bOf bl0) w25x10.blks) w25x10.v (addL (smallH (bOf bl0) w25x10.blks) w25x10.ys) := zaJ za6 zaI zmj
def w28x11 : Memo := ⟨35, [], [], .slice (some ⟨0, 0, none⟩) 2 2, [.cells [.int .i64 0, .int .i64 40, .int .i64 300, .int .i64 40, .int .i64 96, .int .i64 500] 3 false false]⟩
theorem zl9 : memoIs Tryz.prog (ctxOf Tryz.prog) bl0 [] 10000 w28x11 = true := by kernel_rfl
theorem zma : Ret Tryz.prog w28x11.f w28x11.args (smallH (bOf bl0) w28x11.blks) w28x11.v (addL (smallH (bOf bl0) w28x11.blks) w28x11.ys) := zaJ za6 zaI zl9
def w27x12 : Memo := ⟨34, [.slice (some ⟨0, 0, none⟩) 2 2, .int .i64 38, .int .i64 42], [.cells [.int .i64 0, .int .i64 40, .int .i64 300, .int .i64 40, .int .i64 96, .int .i64 500] 3 false false], .tuple ⟨[.int .i64 1600, .int .i64 0]⟩, []⟩
theorem zmb : memoIs Tryz.prog (ctxOf Tryz.prog) bl0 [] 10000 w27x12 = true := by kernel_rfl
theorem zmc : Ret Tryz.prog w27x12.f w27x12.args (smallH (bOf bl0) w27x12.blks) w27x12.v (addL (smallH (bOf bl0) w27x12.blks) w27x12.ys) := zaJ za6 zaI zmb
def w29x13 : Memo := ⟨36, [.slice (some ⟨0, 0, none⟩) 2 2, .int .i64 38, .int .i64 42, .int .i64 3], [.cells [.int .i64 0, .int .i64 40, .int .i64 300, .int .i64 40, .int .i64 96, .int .i64 500] 3 false false], .tuple ⟨[.slice (some ⟨2, 0, none⟩) 3 3, .int .i64 0]⟩, [.cells [.int .i64 534, .int .i64 533, .int .i64 533] 1 false false]⟩
theorem zl7 : memoIs Tryz.prog (ctxOf Tryz.prog) bl0 [] 10000 w29x13 = true := by kernel_rfl
theorem zl8 : Ret Tryz.prog w29x13.f w29x13.args (smallH (bOf bl0) w29x13.blks) w29x13.v (addL (smallH (bOf bl0) w29x13.blks) w29x13.ys) := zaJ za6 zaI zl7
def w30x14 : Memo := ⟨37, [.agg ⟨[.slice (some ⟨0, 0, none⟩) 2 2, .int .i64 1000, .int .i64 8]⟩, .agg ⟨[.string ⟨⟨[97, 110, 110]⟩⟩, .string ⟨⟨[112, 111, 111, 108]⟩⟩, .int .i64 38, .int .i64 42]⟩], [.cells [.int .i64 0, .int .i64 40, .int .i64 300, .int .i64 40, .int .i64 96, .int .i64 500] 3 false false], .tuple ⟨[.slice (some ⟨2, 0, none⟩) 3 3, .int .i64 0]⟩, [.cells [.string ⟨⟨[99, 97, 115, 104]⟩⟩, .string ⟨⟨[100, 101, 112, 111, 115, 105, 116, 115]⟩⟩, .int .i64 1000, .string ⟨⟨[100, 101, 112, 111, 115, 105, 116, 115]⟩⟩, .string ⟨⟨[115, 97, 108, 101, 115]⟩⟩, .int .i64 1000, .string ⟨⟨[99, 97, 115, 104]⟩⟩, .string ⟨⟨[115, 97, 108, 101, 115]⟩⟩, .int .i64 600] 3 true false]⟩
theorem zl5 : memoIs Tryz.prog (ctxOf Tryz.prog) bl0 [] 10000 w30x14 = true := by kernel_rfl
theorem zl6 : Ret Tryz.prog w30x14.f w30x14.args (smallH (bOf bl0) w30x14.blks) w30x14.v (addL (smallH (bOf bl0) w30x14.blks) w30x14.ys) := zaJ za6 zaI zl5
def w31x15 : Memo := ⟨38, [.agg ⟨[.slice (some ⟨0, 0, none⟩) 2 2, .int .i64 1000, .int .i64 8]⟩, .agg ⟨[.string ⟨⟨[97, 110, 110]⟩⟩, .string ⟨⟨[112, 111, 111, 108]⟩⟩, .int .i64 38, .int .i64 42]⟩, .int .i64 30], [.cells [.int .i64 0, .int .i64 40, .int .i64 300, .int .i64 40, .int .i64 96, .int .i64 500] 3 false false], .tuple ⟨[.slice (some ⟨2, 0, none⟩) 2 2, .int .i64 0]⟩, [.cells [.string ⟨⟨[99, 97, 115, 104]⟩⟩, .string ⟨⟨[100, 101, 112, 111, 115, 105, 116, 115]⟩⟩, .int .i64 1000, .string ⟨⟨[100, 101, 112, 111, 115, 105, 116, 115]⟩⟩, .string ⟨⟨[99, 97, 115, 104]⟩⟩, .int .i64 1000] 3 true false]⟩
theorem zl3 : memoIs Tryz.prog (ctxOf Tryz.prog) bl0 [] 10000 w31x15 = true := by kernel_rfl
theorem zl4 : Ret Tryz.prog w31x15.f w31x15.args (smallH (bOf bl0) w31x15.blks) w31x15.v (addL (smallH (bOf bl0) w31x15.blks) w31x15.ys) := zaJ za6 zaI zl3
def w31x16 : Memo := ⟨38, [.agg ⟨[.slice (some ⟨0, 0, none⟩) 2 2, .int .i64 1000, .int .i64 8]⟩, .agg ⟨[.string ⟨⟨[97, 110, 110]⟩⟩, .string ⟨⟨[112, 111, 111, 108]⟩⟩, .int .i64 38, .int .i64 42]⟩, .int .i64 31], [.cells [.int .i64 0, .int .i64 40, .int .i64 300, .int .i64 40, .int .i64 96, .int .i64 500] 3 false false], .tuple ⟨[.slice (some ⟨2, 0, none⟩) 2 2, .int .i64 0]⟩, [.cells [.string ⟨⟨[99, 97, 115, 104]⟩⟩, .string ⟨⟨[100, 101, 112, 111, 115, 105, 116, 115]⟩⟩, .int .i64 1000, .string ⟨⟨[100, 101, 112, 111, 115, 105, 116, 115]⟩⟩, .string ⟨⟨[102, 111, 114, 102, 101, 105, 116, 115]⟩⟩, .int .i64 1000] 3 true false]⟩
theorem zl1 : memoIs Tryz.prog (ctxOf Tryz.prog) bl0 [] 10000 w31x16 = true := by kernel_rfl
theorem zl2 : Ret Tryz.prog w31x16.f w31x16.args (smallH (bOf bl0) w31x16.blks) w31x16.v (addL (smallH (bOf bl0) w31x16.blks) w31x16.ys) := zaJ za6 zaI zl1
def w32x17 : Memo := ⟨39, [.slice (some ⟨0, 0, none⟩) 3 3, .string ⟨⟨[115, 97, 108, 101, 115]⟩⟩], [.cells [.string ⟨⟨[99, 97, 115, 104]⟩⟩, .string ⟨⟨[100, 101, 112, 111, 115, 105, 116, 115]⟩⟩, .int .i64 1000, .string ⟨⟨[100, 101, 112, 111, 115, 105, 116, 115]⟩⟩, .string ⟨⟨[115, 97, 108, 101, 115]⟩⟩, .int .i64 1000, .string ⟨⟨[99, 97, 115, 104]⟩⟩, .string ⟨⟨[115, 97, 108, 101, 115]⟩⟩, .int .i64 600] 3 true false], .tuple ⟨[.int .i64 (-1600), .int .i64 0]⟩, []⟩
theorem zlZ : memoIs Tryz.prog (ctxOf Tryz.prog) bl0 [] 10000 w32x17 = true := by kernel_rfl
theorem zl0 : Ret Tryz.prog w32x17.f w32x17.args (smallH (bOf bl0) w32x17.blks) w32x17.v (addL (smallH (bOf bl0) w32x17.blks) w32x17.ys) := zaJ za6 zaI zlZ
def w33x18 : Memo := ⟨40, [.slice (some ⟨0, 0, none⟩) 3 3], [.cells [.string ⟨⟨[99, 97, 115, 104]⟩⟩, .string ⟨⟨[100, 101, 112, 111, 115, 105, 116, 115]⟩⟩, .int .i64 1000, .string ⟨⟨[100, 101, 112, 111, 115, 105, 116, 115]⟩⟩, .string ⟨⟨[115, 97, 108, 101, 115]⟩⟩, .int .i64 1000, .string ⟨⟨[99, 97, 115, 104]⟩⟩, .string ⟨⟨[115, 97, 108, 101, 115]⟩⟩, .int .i64 600] 3 true false], .tuple ⟨[.slice (some ⟨2, 0, none⟩) 3 3, .int .i64 0]⟩, [.cells [.string ⟨⟨[99, 97, 115, 104]⟩⟩, .int .i64 1600, .string ⟨⟨[100, 101, 112, 111, 115, 105, 116, 115]⟩⟩, .int .i64 0, .string ⟨⟨[115, 97, 108, 101, 115]⟩⟩, .int .i64 (-1600)] 2 true false]⟩
theorem zlX : memoIs Tryz.prog (ctxOf Tryz.prog) bl0 [] 10000 w33x18 = true := by kernel_rfl
theorem zlY : Ret Tryz.prog w33x18.f w33x18.args (smallH (bOf bl0) w33x18.blks) w33x18.v (addL (smallH (bOf bl0) w33x18.blks) w33x18.ys) := zaJ za6 zaI zlX
def w25x19 : Memo := ⟨32, [.slice (some ⟨0, 0, none⟩) 3 3, .slice (some ⟨2, 0, none⟩) 3 3], [.cells [.int .i64 534, .int .i64 533, .int .i64 533] 1 false false, .cells [.int .i64 534, .int .i64 533, .int .i64 533] 1 false false], .bool true, []⟩
theorem zmh : memoIs Tryz.prog (ctxOf Tryz.prog) bl0 [] 10000 w25x19 = true := by kernel_rfl
theorem zmi : Ret Tryz.prog w25x19.f w25x19.args (smallH (bOf bl0) w25x19.blks) w25x19.v (addL (smallH (bOf bl0) w25x19.blks) w25x19.ys) := zaJ za6 zaI zmh
def w10x20 : Memo := ⟨9, [.slice (some ⟨0, 0, none⟩) 3 3, .slice (some ⟨2, 0, none⟩) 4 4, .slice (some ⟨4, 0, none⟩) 4 4], [.cells [.string ⟨⟨[97]⟩⟩, .string ⟨⟨[112, 111, 111, 108]⟩⟩, .string ⟨⟨[98]⟩⟩, .string ⟨⟨[112, 111, 111, 108]⟩⟩, .string ⟨⟨[99]⟩⟩, .string ⟨⟨[115, 110, 111, 111, 107, 101, 114]⟩⟩] 2 false false, .cells [.string ⟨⟨[97, 110, 110]⟩⟩, .string ⟨⟨[112, 111, 111, 108]⟩⟩, .int .i64 10, .int .i64 14, .string ⟨⟨[98, 111, 98]⟩⟩, .string ⟨⟨[112, 111, 111, 108]⟩⟩, .int .i64 8, .int .i64 12, .string ⟨⟨[99, 121]⟩⟩, .string ⟨⟨[112, 111, 111, 108]⟩⟩, .int .i64 12, .int .i64 16, .string ⟨⟨[100, 101, 101]⟩⟩, .string ⟨⟨[115, 110, 111, 111, 107, 101, 114]⟩⟩, .int .i64 0, .int .i64 8] 4 false false, .cells [.int .i64 1, .int .i64 0, .int .i64 0, .int .i64 2] 1 false false], .tuple ⟨[.slice (some ⟨6, 0, none⟩) 3 3, .int .i64 0]⟩, [.cells [.int .i64 8, .int .i64 4, .int .i64 8] 1 false false]⟩
theorem zmt : memoIs Tryz.prog (ctxOf Tryz.prog) bl0 [] 10000 w10x20 = true := by kernel_rfl
theorem zmu : Ret Tryz.prog w10x20.f w10x20.args (smallH (bOf bl0) w10x20.blks) w10x20.v (addL (smallH (bOf bl0) w10x20.blks) w10x20.ys) := zaJ za6 zaI zmt
def w11x21 : Memo := ⟨10, [.slice (some ⟨0, 0, none⟩) 3 3, .slice (some ⟨2, 0, none⟩) 4 4, .slice (some ⟨4, 0, none⟩) 4 4, .int .i64 6], [.cells [.string ⟨⟨[97]⟩⟩, .string ⟨⟨[112, 111, 111, 108]⟩⟩, .string ⟨⟨[98]⟩⟩, .string ⟨⟨[112, 111, 111, 108]⟩⟩, .string ⟨⟨[99]⟩⟩, .string ⟨⟨[115, 110, 111, 111, 107, 101, 114]⟩⟩] 2 false false, .cells [.string ⟨⟨[97, 110, 110]⟩⟩, .string ⟨⟨[112, 111, 111, 108]⟩⟩, .int .i64 10, .int .i64 14, .string ⟨⟨[98, 111, 98]⟩⟩, .string ⟨⟨[112, 111, 111, 108]⟩⟩, .int .i64 8, .int .i64 12, .string ⟨⟨[99, 121]⟩⟩, .string ⟨⟨[112, 111, 111, 108]⟩⟩, .int .i64 12, .int .i64 16, .string ⟨⟨[100, 101, 101]⟩⟩, .string ⟨⟨[115, 110, 111, 111, 107, 101, 114]⟩⟩, .int .i64 0, .int .i64 8] 4 false false, .cells [.int .i64 1, .int .i64 0, .int .i64 0, .int .i64 2] 1 false false], .tuple ⟨[.slice (some ⟨6, 0, none⟩) 3 3, .int .i64 0]⟩, [.cells [.int .i64 13, .int .i64 (-1), .int .i64 5] 1 true false]⟩
theorem zmr : memoIs Tryz.prog (ctxOf Tryz.prog) bl0 [] 10000 w11x21 = true := by kernel_rfl
theorem zms : Ret Tryz.prog w11x21.f w11x21.args (smallH (bOf bl0) w11x21.blks) w11x21.v (addL (smallH (bOf bl0) w11x21.blks) w11x21.ys) := zaJ za6 zaI zmr
def w13x22 : Memo := ⟨22, [.agg ⟨[.int .i64 0, .int .i64 0, .int .i64 10, .int .i64 1000, .int .i64 0, .int .i64 30, .int .i64 0, .int .i64 500, .int .i64 10]⟩], [], .tuple ⟨[.agg ⟨[.string ⟨⟨[49, 47, 53, 48]⟩⟩, .string ⟨⟨[48]⟩⟩]⟩, .int .i64 0]⟩, []⟩
theorem zmp : memoIs Tryz.prog (ctxOf Tryz.prog) bl0 [] 10000 w13x22 = true := by kernel_rfl
theorem zmq : Ret Tryz.prog w13x22.f w13x22.args (smallH (bOf bl0) w13x22.blks) w13x22.v (addL (smallH (bOf bl0) w13x22.blks) w13x22.ys) := zaJ za6 zaI zmp
def w14x23 : Memo := ⟨17, [.slice (some ⟨0, 0, none⟩) 3 3, .int .i64 20], [.cells [.int .i64 0, .int .i64 0, .int .i64 10, .int .i64 1000, .int .i64 0, .int .i64 30, .int .i64 0, .int .i64 500, .int .i64 10] 0 false false], .tuple ⟨[.bool true, .int .i64 0]⟩, []⟩
theorem zmn : memoIs Tryz.prog (ctxOf Tryz.prog) bl0 [] 10000 w14x23 = true := by kernel_rfl
theorem zmo : Ret Tryz.prog w14x23.f w14x23.args (smallH (bOf bl0) w14x23.blks) w14x23.v (addL (smallH (bOf bl0) w14x23.blks) w14x23.ys) := zaJ za6 zaI zmn
def w14x24 : Memo := ⟨17, [.slice (some ⟨0, 0, none⟩) 3 3, .int .i64 19], [.cells [.int .i64 0, .int .i64 0, .int .i64 10, .int .i64 1000, .int .i64 0, .int .i64 30, .int .i64 0, .int .i64 500, .int .i64 10] 0 false false], .tuple ⟨[.bool false, .int .i64 0]⟩, []⟩
theorem zml : memoIs Tryz.prog (ctxOf Tryz.prog) bl0 [] 10000 w14x24 = true := by kernel_rfl
theorem zmm : Ret Tryz.prog w14x24.f w14x24.args (smallH (bOf bl0) w14x24.blks) w14x24.v (addL (smallH (bOf bl0) w14x24.blks) w14x24.ys) := zaJ za6 zaI zml
def w25x25 : Memo := ⟨32, [.slice (some ⟨0, 0, none⟩) 3 3, .slice (some ⟨2, 0, none⟩) 3 3], [.cells [.int .i64 8, .int .i64 4, .int .i64 8] 1 false false, .cells [.int .i64 8, .int .i64 4, .int .i64 8] 1 false false], .bool true, []⟩
theorem zmf : memoIs Tryz.prog (ctxOf Tryz.prog) bl0 [] 10000 w25x25 = true := by kernel_rfl
theorem zmg : Ret Tryz.prog w25x25.f w25x25.args (smallH (bOf bl0) w25x25.blks) w25x25.v (addL (smallH (bOf bl0) w25x25.blks) w25x25.ys) := zaJ za6 zaI zmf
def w25x26 : Memo := ⟨32, [.slice (some ⟨0, 0, none⟩) 3 3, .slice (some ⟨2, 0, none⟩) 3 3], [.cells [.int .i64 13, .int .i64 (-1), .int .i64 5] 1 true false, .cells [.int .i64 13, .int .i64 (-1), .int .i64 5] 1 false false], .bool true, []⟩
theorem zmd : memoIs Tryz.prog (ctxOf Tryz.prog) bl0 [] 10000 w25x26 = true := by kernel_rfl
theorem zme : Ret Tryz.prog w25x26.f w25x26.args (smallH (bOf bl0) w25x26.blks) w25x26.v (addL (smallH (bOf bl0) w25x26.blks) w25x26.ys) := zaJ za6 zaI zmd
def wAll : List Memo := [w18x0, w17x1, w20x2, w19x3, w21x4, w22x5, w23x6, w24x7, w25x8, w26x9, w25x10, w28x11, w27x12, w29x13, w30x14, w31x15, w31x16, w32x17, w33x18, w25x19, w10x20, w11x21, w13x22, w14x23, w14x24, w25x25, w25x26]
theorem zpH : allAre isTrue ((iterM Tryz.prog (ctxOf Tryz.prog) bl0 wAll 10000).call 5 [] (heapOf B0)) = true := by kernel_rfl
theorem znh : CallT Tryz.prog 5 [] (heapOf B0) (fun u _ => u = .bool true) := by
 have h := zpH;unfold allAre at h;split at h
 ·rename_i l hl;refine ((ziA za6 (zaF znC (zaF znE (zaF zny (zaF znA (zaF znw (zaF znu (zaF zns (zaF znq (zaF zno (zaF znm (zaF zmk (zaF zma (zaF zmc (zaF zl8 (zaF zl6 (zaF zl4 (zaF zl2 (zaF zl0 (zaF zlY (zaF zmi (zaF zmu (zaF zms (zaF zmq (zaF zmo (zaF zmm (zaF zmg (zaF zme zaI))))))))))))))))))))))))))) PC.ok 10000).call hl).mono fun u k hm => zoW u ?_
  rw [List.all_eq_true] at h;exact h _ hm
 ·cases h
theorem awake17 {H : AHeap} (hG : Glo B0 H) : Ret Tryz.prog 5 [] H (.bool true) H := zn7 znh zkM rfl rfl hG
open Go Go.Den Go.ChangeShapes Go.WideShapes Go.ChangeAt Go.RowKit Go.Deep
set_option maxRecDepth 10000
noncomputable instance : Inhabited (Int × Int) := ⟨(0, 0)⟩
theorem undInts : Tryz.prog.underlying 24 = some (.slice 3) := rfl
theorem cellsInt : Tryz.prog.cellsOf 3 = 1 := by decide +kernel
theorem zrz (x : Int) : (i1 x).length = 1 := rfl
theorem flat_i1 (x : Int) : (i1 x).all flatC = true := rfl
section
variable {H : Type} {enc : TypeId × Value → H} {W : World} {sp : Nat → Bool} {hd : Bool} {fuel : Nat}
theorem dec_i1 {cs : List Value} {x : DataW H × List MemPlace} (h : DataW.trod enc Tryz.prog W 0 sp hd fuel 3 cs = some x) : ∃ y, cs = i1 y := zdd h
theorem open_ints {b0 : Nat} {v : Value} {x : DataW H × List MemPlace} (hsp : ∀ b, sp b = true) (h : DataW.trod enc Tryz.prog W 0 sp hd fuel 24 [v] = some x) (hok : Cell.okWide Tryz.prog W .any b0 24 v) : OpS W i1 1 v :=
 zeN (f := i1) (w := 1) (by omega) (fun _ => rfl) undInts cellsInt dec_i1 hsp h hok
end
open Go Go.Den
set_option maxRecDepth 100000
def alphaI (c : Int) : Bool := (decide (c ≥ 97) && decide (c ≤ 122)) || (decide (c ≥ 65) && decide (c ≤ 90))
def nameC (i : Nat) (c : Int) : Bool := alphaI c || (decide (i ≠ 0) && ((decide (c ≥ 48) && decide (c ≤ 57)) || c == 95))
def nameB (s : ByteArray) : Bool := (decide (1 ≤ s.size) && decide (s.size ≤ 24)) && (List.range s.size).all fun i => nameC i (byteI s i)
theorem zjr {s : ByteArray} {i : Nat} (hi : i < s.size) (h : nameC i (byteI s i) = false) : nameB s = false := by
 unfold nameB
 have : ((List.range s.size).all fun i => nameC i (byteI s i)) = false := by
  rw [List.all_eq_false];exact ⟨i, List.mem_range.2 hi, by rw [h]; simp⟩
 rw [this, Bool.and_false]
theorem zjs {s : ByteArray} (h : ∀ i, i < s.size → nameC i (byteI s i) = true) : nameB s = (decide (1 ≤ s.size) && decide (s.size ≤ 24)) := by
 unfold nameB
 have : ((List.range s.size).all fun i => nameC i (byteI s i)) = true := by
  rw [List.all_eq_true];exact fun i hi => h i (List.mem_range.1 hi)
 rw [this, Bool.and_true]
theorem zhK {i : Nat} {c : Int} (h : 128 ≤ c) : nameC i c = false := by
 have h1 : decide (c ≤ 122) = false := by simp; omega
 have h2 : decide (c ≤ 90) = false := by simp; omega
 have h3 : decide (c ≤ 57) = false := by simp; omega
 have h4 : (c == 95) = false := by simp; omega
 simp [nameC, alphaI, h1, h2, h3, h4]
abbrev s1 (x : ByteArray) : List Value := [.string x]
theorem zmY {H : AHeap} {c : Int} : Ret Tryz.prog 145 [.int .i32 c] H (.bool (alphaI c)) H := by
 refine zae Tryz.func145 rfl rfl rfl fun hc => ?_
 refine zst ?_;refine zq0 ?_;refine zst ?_;refine zan rfl rfl (fun u1 => ?_) (fun u1 => ?_)
 ·have u1 : decide (c ≥ 97) = true := u1;refine zst ?_;refine zq1 ?_;refine zst ?_;refine zan rfl rfl (fun u2 => ?_) (fun u2 => ?_)
  ·have u2 : decide (c ≤ 122) = true := u2;(iterate 3 (refine zs1 ?_));(iterate 2 (apply zbt (hd := rfl) (hl := rfl); exact rfl));refine zst ?_;refine zab hc rfl rfl ⟨?_, rfl⟩;simp only [packA, alphaI, u1, u2]; rfl
  ·have u2 : decide (c ≤ 122) = false := u2;have u3 : decide (c ≤ 90) = false := by simp at u2 ⊢; omega
   have u4 : alphaI c = false := by simp only [alphaI, u1, u2, u3]; simp
   refine zst ?_;refine zq1 ?_;refine zst ?_;refine zan rfl rfl (fun u5 => ?_) (fun u5 => ?_)
   ·refine zst ?_;refine zq1 ?_;refine zst ?_;refine zab hc rfl rfl ⟨?_, rfl⟩;rw [u4, u3]; rfl
   ·refine zst ?_;refine zab hc rfl rfl ⟨?_, rfl⟩;rw [u4]; rfl
 ·have u1 : decide (c ≥ 97) = false := u1;refine zst ?_;refine zq1 ?_;refine zst ?_;refine zan rfl rfl (fun u5 => ?_) (fun u5 => ?_)
  ·have u5 : decide (c ≥ 65) = true := u5;refine zst ?_;refine zq1 ?_;refine zst ?_;refine zab hc rfl rfl ⟨?_, rfl⟩;simp only [packA, alphaI, u1, u5]; simp
  ·have u5 : decide (c ≥ 65) = false := u5;refine zst ?_;refine zab hc rfl rfl ⟨?_, rfl⟩;simp only [packA, alphaI, u1, u5]; simp
theorem zqE {H : AHeap} {s : ByteArray} : Ret Tryz.prog 106 [.string s] H (.bool (nameB s)) H := by
 refine zae Tryz.func106 rfl rfl rfl fun hc => ?_
 refine zst ?_;apply zkZ;exact zkC rfl rfl;exact rfl;refine zst ?_;apply zar;refine zaA (α := Nat) (fun _ => [(0, .string s), (6, .pointer (some ⟨nb H 0, 0, none⟩))]) (fun a => ext H H.fresh [some (.siter s a)]) (fun a => ∀ i, i < a → i < s.size → nameC i (byteI s i) = true) (fun a => s.size - a) (fun a hJ ih => ?_) 0 (by intros; omega) zsb (.refl _);(iterate 2 (refine zs1 ?_));by_cases ha : a < s.size
 ·apply zpZ (k := 0) (hc := hc) (hlt := by simp);exact zm5 rfl (zaa rfl) (zat _) ha;exact rfl;refine zst ?_;refine zam rfl rfl ?_;refine zst ?_;apply zac (ht := rfl); exact zmY; exact rfl;refine zq10 ?_;refine zs1 ?_;obtain ⟨r, hr⟩ : ∃ r : Int, r = (((Utf8.decode s a).1 : Nat) : Int) := ⟨_, rfl⟩
  obtain ⟨w, hw⟩ : ∃ w : Nat, w = (Utf8.decode s a).2 := ⟨_, rfl⟩
  have key : (nameC a r = true → w = 1 ∧ nameC a (byteI s a) = true) ∧ (nameC a r = false → nameC a (byteI s a) = false) := by
   obtain ⟨b, _, hb, hbi⟩ := byte_at ha;rw [hbi];by_cases h128 : b.toNat < 128
   ·have := decode_ascii s a ha (by rw [hb]; exact h128);rw [hb] at this;rw [hr, hw, this];exact ⟨fun h => ⟨rfl, h⟩, fun h => h⟩
   ·have h1 := decode_high s a ha (by rw [hb]; omega);have h2 : nameC a r = false := zhK (by rw [hr]; omega);exact ⟨fun h => (by rw [h2] at h; cases h), fun _ => zhK (by omega)⟩
  rw [← hr, ← hw];refine zdf [(0, .string s), (6, .pointer (some ⟨nb H 0, 0, none⟩)), (29, .bool (!nameC a r))] (ds := []) (h := ext H H.fresh [some (.siter s (a + w))]) ?_ ?_
  ·refine zan rfl rfl (fun u1 => ?_) (fun u1 => ?_)
   ·have u1 : alphaI r = false := by simpa using u1
    refine zst ?_;refine zq1 ?_;refine zst ?_;refine zan rfl rfl (fun u2 => ?_) (fun u2 => ?_)
    ·have e : nameC a r = false := by
      have u2 : a = 0 := by simpa using u2
      simp [nameC, u1, u2]
     rw [e];(iterate 3 (refine zs1 ?_));(iterate 6 (apply zbt (hd := rfl) (hl := rfl); exact rfl));refine zst ?_;exact zaP zsb
    ·have u2 : decide (a ≠ 0) = true := by
      have : a ≠ 0 := by simpa using u2
      exact decide_eq_true this
     refine zst ?_;refine zq1 ?_;refine zst ?_;refine zan rfl rfl (fun u3 => ?_) (fun u3 => ?_)
     ·have u3 : (r == 95) = false := by simpa using u3
      refine zst ?_;refine zq1 ?_;refine zst ?_;refine zan rfl rfl (fun u4 => ?_) (fun u4 => ?_)
      ·have e : nameC a r = false := by
        have u4 : decide (r ≥ 48) = false := by simp at u4 ⊢; exact u4
        simp [nameC, u1, u2, u3, u4]
       rw [e];refine zst ?_;exact zaP zsb
      ·have e : nameC a r = !decide (r > 57) := by
        have u4 : decide (r ≥ 48) = true := by simp at u4 ⊢; exact u4
        have u5 : decide (r ≤ 57) = !decide (r > 57) := by rw [Bool.eq_iff_iff]; simp
        rw [← u5];unfold nameC;rw [u1, u2, u3, u4]; simp
       rw [e, Bool.not_not];refine zst ?_;refine zq1 ?_;refine zst ?_;exact zaP zsb
     ·have e : nameC a r = true := by
       have u3 : (r == 95) = true := by simpa using u3
       unfold nameC;rw [u1, u2, u3]; simp
      rw [e];(iterate 3 (refine zs1 ?_));(iterate 2 (apply zbt (hd := rfl) (hl := rfl); exact rfl));refine zst ?_;exact zaP zsb
   ·have e : nameC a r = true := by
     have u1 : alphaI r = true := by simpa using u1
     unfold nameC;rw [u1]; rfl
    rw [e];(iterate 3 (refine zs1 ?_));(iterate 10 (apply zbt (hd := rfl) (hl := rfl); exact rfl));refine zst ?_;exact zaP zsb
  skip
  cases hn : nameC a r with
  | false =>
   refine zam rfl rfl ?_;refine zst ?_;refine zab hc rfl rfl ⟨?_, rfl⟩
   rw [zjr ha (key.2 hn)]; rfl
  | true =>
   refine zah rfl rfl ?_;apply zbb;have k1 := key.1 hn;refine zbn ?_ (ih (a + w) (by omega) fun i hi his => ?_)
   ·(repeat (first | exact zbi | apply za0 rfl))
   ·by_cases e : i = a
    ·subst e; exact k1.2
    ·exact hJ i (by omega) his
 ·apply zad; exact zm6 rfl (zaa rfl) (zat _) ha; exact rfl;refine zst ?_;refine zah rfl rfl ?_;apply zap;apply zaq; exact rfl;refine zst ?_;apply zad; exact zbV rfl rfl rfl; exact rfl;refine zst ?_;have hall := zjs (s := s) fun i hi => hJ i (by omega) hi
  refine zan rfl rfl (fun u1 => ?_) (fun u1 => ?_)
  ·have u1 : byteL s.data.toList (⟨#[]⟩ : ByteArray).data.toList = false := by simpa using u1
   rw [zba] at u1;have u1 := of_decide_eq_false u1
   have h1 : decide (1 ≤ s.size) = true := by
    refine decide_eq_true (Nat.pos_of_ne_zero fun e => u1 ?_);cases s;rename_i d;simp only [ByteArray.mk.injEq];exact Array.eq_empty_of_size_eq_zero e
   refine zst ?_;apply zay (hd := rfl) (hl := rfl); exact zbA rfl rfl rfl; exact rfl;refine zq1 ?_;refine zst ?_;refine zab hc rfl rfl ⟨?_, rfl⟩;rw [hall, h1];simp [packA];omega
  ·have u1 : byteL s.data.toList (⟨#[]⟩ : ByteArray).data.toList = true := by simpa using u1
   rw [zba] at u1;have u1 := of_decide_eq_true u1;refine zst ?_;refine zab hc rfl rfl ⟨?_, rfl⟩;rw [hall, u1]; rfl
set_option maxHeartbeats 1000000 in
theorem zdi {H : AHeap} {s : ByteArray} : Ret Tryz.prog 91 [.string s] H (.bool (nameB s)) H := by
 refine zae Tryz.func91 rfl rfl rfl fun hc => ?_
 refine zst ?_;apply zad; exact zbA rfl rfl rfl; exact rfl;refine zq0 ?_;refine zs1 ?_;refine zdf [(0, .string s), (13, .bool (!(decide (1 ≤ s.size) && decide (s.size ≤ 24))))] (ds := []) (h := ext H H.fresh []) ?_ ?_
 ·refine zan rfl rfl (fun u1 => ?_) (fun u1 => ?_)
  ·have u1 : decide ((s.size : Int) < 1) = true := u1;have u1 : decide (1 ≤ s.size) = false := decide_eq_false (by have := of_decide_eq_true u1; omega);rw [u1];refine zst ?_;exact zaP zsb
  ·have u1 : decide ((s.size : Int) < 1) = false := u1;have u1 : decide (1 ≤ s.size) = true := decide_eq_true (by have := of_decide_eq_false u1; omega)
   have e : (!(decide (1 ≤ s.size) && decide (s.size ≤ 24))) = decide ((s.size : Int) > 24) := by
    rw [u1, Bool.eq_iff_iff]; simp; omega
   rw [e];refine zst ?_;apply zay (hd := rfl) (hl := rfl); exact zbA rfl rfl rfl; exact rfl;refine zq1 ?_;refine zst ?_;exact zaP zsb
 skip;refine zai rfl (fun h1 => ?_) (fun h1 => ?_)
 ·have h1 : (!(decide (1 ≤ s.size) && decide (s.size ≤ 24))) = true := h1;refine zst ?_;refine zab hc rfl rfl ⟨?_, rfl⟩;unfold nameB;rw [Bool.not_eq_true'] at h1;rw [h1]; rfl
 have h1 : (decide (1 ≤ s.size) && decide (s.size ≤ 24)) = true := by simpa using h1
 have hsz : 1 ≤ s.size ∧ s.size ≤ 24 := by simpa using h1
 refine zst ?_;apply zar;refine zcG (fun i => [(0, .string s), (3, I i)]) (fun i => ∀ j, j < i → nameC j (byteI s j) = true) s.size (fun i hi hJ ih => ?_) 0 (by omega) (by intros; omega) zsb;refine zst ?_;apply zad; exact zbA rfl rfl rfl; exact rfl;refine zq0 ?_;apply zaf;refine zai rfl (fun h2 => ?_) (fun h2 => ?_)
 ·simp only [decide_eq_true_eq, Int.ofNat_lt] at h2;obtain ⟨b, hb1, _, hbi⟩ := byte_at h2;refine zst ?_;apply zad; exact zhd rfl rfl rfl (zb7 (by omega)) hb1; exact rfl;rw [← hbi];obtain ⟨r, hr⟩ : ∃ r : Int, r = byteI s i := ⟨_, rfl⟩
  rw [← hr];refine zst ?_;refine zq0 ?_;refine zs1 ?_;refine zdf [(0, .string s), (3, I i), (4, .int .u8 r), (5, .bool (alphaI r))] (ds := []) (h := ext H H.fresh []) ?_ ?_
  ·refine zan rfl rfl (fun u1 => ?_) (fun u1 => ?_)
   ·have u1 : decide (r ≥ 97) = true := u1;refine zst ?_;refine zq1 ?_;refine zst ?_;refine zan rfl rfl (fun u2 => ?_) (fun u2 => ?_)
    ·have u2 : decide (r ≤ 122) = true := u2;rw [show alphaI r = true by simp only [alphaI, u1, u2]; rfl];(iterate 3 (refine zs1 ?_));(iterate 2 (apply zbt (hd := rfl) (hl := rfl); exact rfl));refine zst ?_;exact zaP zsb
    ·have u2 : decide (r ≤ 122) = false := u2;have u3 : decide (r ≤ 90) = false := by simp at u2 ⊢; omega
     have u5 : decide (r ≥ 65) = true := by simp at u1 ⊢; omega
     rw [show alphaI r = false by simp only [alphaI, u1, u2, u3]; simp];refine zst ?_;refine zq1 ?_;refine zs1 ?_;rw [u5];refine zst ?_;refine zq1 ?_;refine zst ?_;rw [u3];exact zaP zsb
   ·have u1 : decide (r ≥ 97) = false := u1;refine zst ?_;refine zq1 ?_;refine zst ?_;refine zan rfl rfl (fun u5 => ?_) (fun u5 => ?_)
    ·have u5 : decide (r ≥ 65) = true := u5;rw [show alphaI r = decide (r ≤ 90) by simp only [alphaI, u1, u5]; simp];refine zst ?_;refine zq1 ?_;refine zst ?_;exact zaP zsb
    ·have u5 : decide (r ≥ 65) = false := u5;rw [show alphaI r = false by simp only [alphaI, u1, u5]; simp];refine zst ?_;exact zaP zsb
  refine zst ?_;refine zq10 ?_;refine zs1 ?_;refine zdf [(0, .string s), (3, I i), (55, .bool (!nameC i r))] (ds := []) (h := ext H H.fresh []) ?_ ?_
  ·refine zan rfl rfl (fun u1 => ?_) (fun u1 => ?_)
   ·have u1 : alphaI r = false := by simpa using u1
    refine zst ?_;refine zq1 ?_;refine zst ?_;refine zan rfl rfl (fun u2 => ?_) (fun u2 => ?_)
    ·have e : nameC i r = false := by
      have u2 : i = 0 := by simpa using u2
      simp [nameC, u1, u2]
     rw [e];(iterate 3 (refine zs1 ?_));(iterate 2 (apply zbt (hd := rfl) (hl := rfl); exact rfl));(iterate 2 (refine zs1 ?_));(iterate 2 (apply zbt (hd := rfl) (hl := rfl); exact rfl));refine zst ?_;exact zaP zsb
    ·have u2 : decide (i ≠ 0) = true := by
      have : i ≠ 0 := by simpa using u2
      exact decide_eq_true this
     have e : nameC i r = ((decide (r ≥ 48) && decide (r ≤ 57)) || r == 95) := by
      unfold nameC;rw [u1, u2]; simp
     rw [e];refine zst ?_;refine zq1 ?_;refine zst ?_;refine zan rfl rfl (fun u3 => ?_) (fun u3 => ?_)
     ·have u3 : decide (r ≥ 48) = true := u3;rw [u3];refine zst ?_;refine zq1 ?_;refine zst ?_;refine zan rfl rfl (fun u4 => ?_) (fun u4 => ?_)
      ·have u4 : decide (r ≤ 57) = true := u4;rw [u4];refine zst ?_;refine zq11 ?_;refine zst ?_;exact zaP zsb
      ·have u4 : decide (r ≤ 57) = false := u4;rw [u4];refine zst ?_;refine zq1 ?_;refine zst ?_;refine zq11 ?_;refine zst ?_;exact zaP zsb
     ·have u3 : decide (r ≥ 48) = false := u3;rw [u3];refine zst ?_;refine zq1 ?_;refine zst ?_;refine zq11 ?_;refine zst ?_;exact zaP zsb
   ·have e : nameC i r = true := by
     have u1 : alphaI r = true := by simpa using u1
     unfold nameC;rw [u1]; rfl
    rw [e];(iterate 3 (refine zs1 ?_));(iterate 11 (apply zbt (hd := rfl) (hl := rfl); exact rfl));refine zst ?_;exact zaP zsb
  skip
  cases hn : nameC i r with
  | false =>
   refine zam rfl rfl ?_;refine zst ?_;refine zab hc rfl rfl ⟨?_, rfl⟩
   rw [zjr h2 (hr ▸ hn)]; rfl
  | true =>
   refine zah rfl rfl ?_;refine zst ?_;refine zq4 ?_;refine zst ?_;refine zbn ?_ (ih (i + 1) (by omega) (by omega) fun j hj => ?_)
   ·(repeat (first | exact zbi | apply za0 rfl))
   ·by_cases e : j = i
    ·subst e; rw [← hr]; exact hn
    ·exact hJ j (by omega)
 ·simp only [decide_eq_false_iff_not, Int.ofNat_lt] at h2;apply zap;apply zaq; exact rfl;refine zst ?_;refine zab hc rfl rfl ⟨?_, rfl⟩;rw [zjs (fun j hj => hJ j (by omega)), h1]; rfl
end Go.Proofs.YtlejimjgagfalaaGreatDoor
noncomputable section
namespace Go.Den
open Go.Sort
end Go.Den
namespace Go.Proofs.YtlejimjgagfalaaGreatDoor
open Go Go.Den Go.Sort
set_option maxRecDepth 100000
def srtI (l : List Int) : List Int := l.mergeSort fun x y => decide (x ≤ y)
def strB (s : List UInt8) : ByteArray := ⟨s.toArray⟩
end Go.Proofs.YtlejimjgagfalaaGreatDoor
