/- What is told of calls: the tables. -/
import Derived.Test.YtdkgahnccefagaaGreatDoorPb4
set_option linter.unusedVariables false
set_option linter.unusedSimpArgs false
set_option maxRecDepth 100000
namespace Go.Proofs.PxDh
open Go Go.Px

def v0 : AV := .agg [.sl 1 [.int .i64 0, .int .u64 1] false, .sl 0 [] true]
def v1 : AV := .agg [.sl 1 [.int .i64 0, .int .u64 1] false, .sl 1 [.str [109, 49], .int .u64 1, .int .u64 3] false]
def v2 : AV := .agg [.sl 1 [.int .i64 0, .int .u64 1] false, .sl 1 [.str [109, 49], .int .u64 2, .int .u64 2] false]
def v3 : AV := .sl 4 [.str [109], .int .i64 1, .int .i64 1, .sl 0 [] true, .str [115], .int .i64 1, .int .i64 3, .sl 0 [] true, .str [108], .int .i64 2, .int .i64 6, .sl 0 [] true, .str [99], .int .i64 3, .int .i64 8, .sl 1 [.int .i64 5, .sl 2 [.int .i64 4, .sl 1 [.int .i64 7, .sl 0 [] true] false, .int .i64 3, .sl 0 [] true] false] false] false
def v4 : AV := .agg [.int .u64 0, .int .u64 0, .sl 0 [] true, .sl 0 [] true, .sl 0 [] true]
def v5 : AV := .agg [.int .u64 3, .int .u64 0, .sl 0 [] true, .sl 0 [] true, .sl 0 [] true]
def v6 : AV := .agg [.int .u64 9, .int .u64 0, .sl 0 [] true, .sl 0 [] true, .sl 0 [] true]
def v7 : AV := .agg [.bool true, .bool true, .bool false, .bool false, .bool false]
def v8 : AV := .agg [.bool true, .bool false, .bool false, .bool false, .bool false]
def T48_0 : List (List AV × AV) := [
  ([v0, v1], v1),
  ([v1, v2], v2)]
def T48 : List (List AV × AV) := T48_0
def T75_0 : List (List AV × AV) := [
  ([v3], .bool true)]
def T75 : List (List AV × AV) := T75_0
def T76_0 : List (List AV × AV) := [
  ([.int .i64 100], .bool true),
  ([.int .i64 0], .bool true)]
def T76 : List (List AV × AV) := T76_0
def T136_0 : List (List AV × AV) := [
  ([v4, v5], .bool false),
  ([v5, v4], .bool false),
  ([v5, v5], .bool true),
  ([v4, v4], .bool true),
  ([v6, v5], .bool false),
  ([v6, v6], .bool true),
  ([v4, v6], .bool false)]
def T136 : List (List AV × AV) := T136_0
def T137_0 : List (List AV × AV) := [
  ([.agg [.sl 0 [] true, .sl 0 [] true], .agg [.sl 0 [] true, .sl 0 [] true]], .bool true),
  ([v1, v0], .bool false),
  ([v2, v1], .bool false)]
def T137 : List (List AV × AV) := T137_0
def T77_0 : List (List AV × AV) := [
  ([v7, .agg [.int .i64 1, .int .i64 100, .int .i64 0, .int .u64 7, .int .i64 0, .str [109, 49], .int .u64 3, .int .u64 0, .sl 0 [] true, .sl 0 [] true, .sl 0 [] true, .sl 0 [] true, .sl 0 [] true, .sl 0 [] true, .sl 0 [] true]], .bool true),
  ([v8, .agg [.int .i64 3, .int .i64 100, .int .i64 0, .int .u64 8, .int .i64 0, .str [109, 49], .int .u64 0, .int .u64 0, .sl 0 [] true, .sl 0 [] true, .sl 0 [] true, .sl 0 [] true, .sl 0 [] true, .sl 0 [] true, .sl 0 [] true]], .bool true),
  ([v7, .agg [.int .i64 1, .int .i64 100, .int .i64 0, .int .u64 9, .int .i64 0, .str [109, 49], .int .u64 9, .int .u64 0, .sl 0 [] true, .sl 0 [] true, .sl 0 [] true, .sl 0 [] true, .sl 0 [] true, .sl 0 [] true, .sl 0 [] true]], .bool true),
  ([v8, .agg [.int .i64 3, .int .i64 100, .int .i64 0, .int .u64 0, .int .i64 0, .str [109, 49], .int .u64 0, .int .u64 0, .sl 0 [] true, .sl 0 [] true, .sl 0 [] true, .sl 0 [] true, .sl 0 [] true, .sl 0 [] true, .sl 0 [] true]], .bool true),
  ([v8, .agg [.int .i64 3, .int .i64 100, .int .i64 0, .int .u64 1, .int .i64 0, .str [109, 49], .int .u64 0, .int .u64 0, .sl 0 [] true, .sl 0 [] true, .sl 0 [] true, .sl 0 [] true, .sl 0 [] true, .sl 0 [] true, .sl 0 [] true]], .bool true),
  ([v8, .agg [.int .i64 3, .int .i64 100, .int .i64 0, .int .u64 2, .int .i64 0, .str [109, 49], .int .u64 0, .int .u64 0, .sl 0 [] true, .sl 0 [] true, .sl 0 [] true, .sl 0 [] true, .sl 0 [] true, .sl 0 [] true, .sl 0 [] true]], .bool true),
  ([v8, .agg [.int .i64 3, .int .i64 100, .int .i64 0, .int .u64 3, .int .i64 0, .str [109, 49], .int .u64 0, .int .u64 0, .sl 0 [] true, .sl 0 [] true, .sl 0 [] true, .sl 0 [] true, .sl 0 [] true, .sl 0 [] true, .sl 0 [] true]], .bool true),
  ([v8, .agg [.int .i64 3, .int .i64 100, .int .i64 0, .int .u64 4, .int .i64 0, .str [109, 49], .int .u64 0, .int .u64 0, .sl 0 [] true, .sl 0 [] true, .sl 0 [] true, .sl 0 [] true, .sl 0 [] true, .sl 0 [] true, .sl 0 [] true]], .bool true),
  ([v8, .agg [.int .i64 3, .int .i64 100, .int .i64 0, .int .u64 5, .int .i64 0, .str [109, 49], .int .u64 0, .int .u64 0, .sl 0 [] true, .sl 0 [] true, .sl 0 [] true, .sl 0 [] true, .sl 0 [] true, .sl 0 [] true, .sl 0 [] true]], .bool true),
  ([v8, .agg [.int .i64 3, .int .i64 100, .int .i64 0, .int .u64 6, .int .i64 0, .str [109, 49], .int .u64 0, .int .u64 0, .sl 0 [] true, .sl 0 [] true, .sl 0 [] true, .sl 0 [] true, .sl 0 [] true, .sl 0 [] true, .sl 0 [] true]], .bool true),
  ([v8, .agg [.int .i64 3, .int .i64 100, .int .i64 0, .int .u64 7, .int .i64 0, .str [109, 49], .int .u64 0, .int .u64 0, .sl 0 [] true, .sl 0 [] true, .sl 0 [] true, .sl 0 [] true, .sl 0 [] true, .sl 0 [] true, .sl 0 [] true]], .bool true),
  ([v8, .agg [.int .i64 3, .int .i64 100, .int .i64 0, .int .u64 9, .int .i64 0, .str [109, 49], .int .u64 0, .int .u64 0, .sl 0 [] true, .sl 0 [] true, .sl 0 [] true, .sl 0 [] true, .sl 0 [] true, .sl 0 [] true, .sl 0 [] true]], .bool true),
  ([v8, .agg [.int .i64 3, .int .i64 100, .int .i64 0, .int .u64 10, .int .i64 0, .str [109, 49], .int .u64 0, .int .u64 0, .sl 0 [] true, .sl 0 [] true, .sl 0 [] true, .sl 0 [] true, .sl 0 [] true, .sl 0 [] true, .sl 0 [] true]], .bool true)]
def T77 : List (List AV × AV) := T77_0
def T138_0 : List (List AV × AV) := [
  ([.str [109, 49]], .bool true)]
def T138 : List (List AV × AV) := T138_0
def T78_0 : List (List AV × AV) := [
  ([v3, .str [109, 49]], .tup [.agg [.str [109], .int .i64 1, .int .i64 1, .sl 0 [] true], .bool true])]
def T78 : List (List AV × AV) := T78_0
def T80_0 : List (List AV × AV) := [
  ([.agg [.sl 0 [] true, .sl 0 [] true]], .bool true),
  ([v1], .bool true),
  ([v2], .bool true)]
def T80 : List (List AV × AV) := T80_0
def T81_0 : List (List AV × AV) := [
  ([v3, .sl 0 [] true, .bool false], .bool true)]
def T81 : List (List AV × AV) := T81_0
def T82_0 : List (List AV × AV) := [
  ([v3, .sl 0 [] true, .clo 83 []], .bool true)]
def T82 : List (List AV × AV) := T82_0
def T95_0 : List (List AV × AV) := [
  ([.agg [.int .i64 1, .sl 0 [] true]], v4)]
def T95 : List (List AV × AV) := T95_0
def T118_0 : List (List AV × AV) := [
  ([v0, .str [109, 49], .int .i64 3], v1),
  ([v1, .str [109, 49], .int .i64 2], v2)]
def T118 : List (List AV × AV) := T118_0
def T141_0 : List (List AV × AV) := [
  ([.agg [.int .i64 1, .sl 0 [] true], v5], .bool true),
  ([.agg [.int .i64 1, .sl 0 [] true], v4], .bool true),
  ([.agg [.int .i64 1, .sl 0 [] true], v6], .bool true)]
def T141 : List (List AV × AV) := T141_0
def T147_0 : List (List AV × AV) := [
  ([v0, .int .i64 0, .str [109, 49]], .bool true)]
def T147 : List (List AV × AV) := T147_0
def T183_0 : List (List AV × AV) := [
  ([.sl 0 [] true, .sl 0 [] true], .sl 0 [] true),
  ([.sl 0 [] true, .sl 1 [.str [109, 49]] false], .sl 1 [.str [109, 49]] false)]
def T183 : List (List AV × AV) := T183_0
def T181_0 : List (List AV × AV) := [
  ([.sl 0 [] true, .str [109, 49]], .sl 1 [.str [109, 49]] false)]
def T181 : List (List AV × AV) := T181_0
def T6_0 : List (List AV × AV) := [
  ([], .bool true)]
def T6 : List (List AV × AV) := T6_0
end Go.Proofs.PxDh
