/- What is told of calls: the tables. -/
import Derived.Test.YtdkgahnccefagaaGreatDoorPb4
set_option linter.unusedVariables false
set_option linter.unusedSimpArgs false
set_option maxRecDepth 100000
namespace Go.Proofs.PxDt
open Go Go.Px

def v0 : AV := .sl 1 [.int .i64 5, .sl 2 [.int .i64 4, .sl 1 [.int .i64 7, .sl 0 [] true] false, .int .i64 3, .sl 0 [] true] false] false
def v1 : AV := .agg [.int .u64 0, .int .u64 0, .sl 0 [] true, .sl 0 [] true, .sl 0 [] true]
def v2 : AV := .agg [.int .u64 3, .int .u64 0, .sl 0 [] true, .sl 0 [] true, .sl 0 [] true]
def v3 : AV := .agg [.int .u64 4, .int .u64 0, .sl 0 [] true, .sl 0 [] true, .sl 0 [] true]
def v4 : AV := .agg [.int .u64 1, .int .u64 0, .sl 0 [] true, .sl 0 [] true, .sl 0 [] true]
def v5 : AV := .agg [.int .u64 2, .int .u64 0, .sl 0 [] true, .sl 0 [] true, .sl 0 [] true]
def v6 : AV := .agg [.int .u64 5, .int .u64 0, .sl 0 [] true, .sl 0 [] true, .sl 0 [] true]
def v7 : AV := .agg [.bool true, .bool false, .bool false, .bool false, .bool false]
def v8 : AV := .agg [.sl 1 [.int .i64 0, .int .u64 1] false, .sl 0 [] true]
def T133_0 : List (List AV × AV) := [
  ([.agg [.int .i64 1, .sl 0 [] true]], .int .i64 1),
  ([.agg [.int .i64 3, .sl 0 [] true]], .int .i64 1),
  ([.agg [.int .i64 6, .sl 0 [] true]], .int .i64 2),
  ([.agg [.int .i64 8, v0]], .int .i64 3)]
def T133 : List (List AV × AV) := T133_0
def T139_0 : List (List AV × AV) := [
  ([.sl 0 [] false, .clo 135 [.ref [.str [109], .int .i64 1, .int .i64 1, .sl 0 [] true]]], .int .i64 (-1)),
  ([.sl 1 [.str [109], .int .i64 1, .int .i64 1, .sl 0 [] true] false, .clo 135 [.ref [.str [115], .int .i64 1, .int .i64 3, .sl 0 [] true]]], .int .i64 (-1)),
  ([.sl 2 [.str [109], .int .i64 1, .int .i64 1, .sl 0 [] true, .str [115], .int .i64 1, .int .i64 3, .sl 0 [] true] false, .clo 135 [.ref [.str [108], .int .i64 2, .int .i64 6, .sl 0 [] true]]], .int .i64 (-1)),
  ([.sl 3 [.str [109], .int .i64 1, .int .i64 1, .sl 0 [] true, .str [115], .int .i64 1, .int .i64 3, .sl 0 [] true, .str [108], .int .i64 2, .int .i64 6, .sl 0 [] true] false, .clo 135 [.ref [.str [99], .int .i64 3, .int .i64 8, v0]]], .int .i64 (-1))]
def T139 : List (List AV × AV) := T139_0
def T75_0 : List (List AV × AV) := [
  ([.sl 4 [.str [109], .int .i64 1, .int .i64 1, .sl 0 [] true, .str [115], .int .i64 1, .int .i64 3, .sl 0 [] true, .str [108], .int .i64 2, .int .i64 6, .sl 0 [] true, .str [99], .int .i64 3, .int .i64 8, v0] false], .bool true)]
def T75 : List (List AV × AV) := T75_0
def T136_0 : List (List AV × AV) := [
  ([v1, v2], .bool false),
  ([v2, v1], .bool false),
  ([v1, v1], .bool true),
  ([v1, v3], .bool false),
  ([v3, v1], .bool false),
  ([v1, v4], .bool false),
  ([v4, v1], .bool false),
  ([v1, v5], .bool false),
  ([v5, v1], .bool false),
  ([v1, v6], .bool false),
  ([v6, v1], .bool false)]
def T136 : List (List AV × AV) := T136_0
def T77_0 : List (List AV × AV) := [
  ([.agg [.bool false, .bool false, .bool false, .bool false, .bool true], .agg [.int .i64 9, .int .i64 0, .int .i64 100, .int .u64 0, .int .i64 0, .str [], .int .u64 0, .int .u64 0, .sl 0 [] true, .sl 0 [] true, .sl 0 [] true, .sl 0 [] true, .sl 0 [] true, .sl 1 [.int .i64 0, .int .u64 1] false, .sl 0 [] true]], .bool true),
  ([v7, .agg [.int .i64 2, .int .i64 0, .int .i64 100, .int .u64 1, .int .i64 0, .str [109, 49], .int .u64 0, .int .u64 0, .sl 0 [] true, .sl 0 [] true, .sl 0 [] true, .sl 0 [] true, .sl 0 [] true, .sl 0 [] true, .sl 0 [] true]], .bool true),
  ([.agg [.bool true, .bool true, .bool false, .bool false, .bool false], .agg [.int .i64 4, .int .i64 0, .int .i64 100, .int .u64 1, .int .i64 0, .str [109, 57], .int .u64 4, .int .u64 0, .sl 0 [] true, .sl 0 [] true, .sl 0 [] true, .sl 0 [] true, .sl 0 [] true, .sl 0 [] true, .sl 0 [] true]], .bool true),
  ([v7, .agg [.int .i64 2, .int .i64 0, .int .i64 100, .int .u64 2, .int .i64 0, .str [109, 97], .int .u64 0, .int .u64 0, .sl 0 [] true, .sl 0 [] true, .sl 0 [] true, .sl 0 [] true, .sl 0 [] true, .sl 0 [] true, .sl 0 [] true]], .bool true),
  ([v7, .agg [.int .i64 2, .int .i64 0, .int .i64 100, .int .u64 3, .int .i64 0, .str [109, 98], .int .u64 0, .int .u64 0, .sl 0 [] true, .sl 0 [] true, .sl 0 [] true, .sl 0 [] true, .sl 0 [] true, .sl 0 [] true, .sl 0 [] true]], .bool true),
  ([v7, .agg [.int .i64 2, .int .i64 0, .int .i64 100, .int .u64 4, .int .i64 0, .str [109, 99], .int .u64 0, .int .u64 0, .sl 0 [] true, .sl 0 [] true, .sl 0 [] true, .sl 0 [] true, .sl 0 [] true, .sl 0 [] true, .sl 0 [] true]], .bool true),
  ([v7, .agg [.int .i64 2, .int .i64 0, .int .i64 100, .int .u64 5, .int .i64 0, .str [109, 100], .int .u64 0, .int .u64 0, .sl 0 [] true, .sl 0 [] true, .sl 0 [] true, .sl 0 [] true, .sl 0 [] true, .sl 0 [] true, .sl 0 [] true]], .bool true),
  ([v7, .agg [.int .i64 2, .int .i64 0, .int .i64 100, .int .u64 6, .int .i64 0, .str [109, 101], .int .u64 0, .int .u64 0, .sl 0 [] true, .sl 0 [] true, .sl 0 [] true, .sl 0 [] true, .sl 0 [] true, .sl 0 [] true, .sl 0 [] true]], .bool true)]
def T77 : List (List AV × AV) := T77_0
def T95_0 : List (List AV × AV) := [
  ([.agg [.int .i64 1, .sl 0 [] true]], v1)]
def T95 : List (List AV × AV) := T95_0
def T374_0 : List (List AV × AV) := [
  ([.int .i64 0, .int .i64 0], .int .u64 2330721955914211304),
  ([.int .i64 0, .int .i64 1], .int .u64 2551719262838997658),
  ([.int .i64 0, .int .i64 2], .int .u64 17486875236386994896),
  ([.int .i64 0, .int .i64 3], .int .u64 17303130575151536274)]
def T374 : List (List AV × AV) := T374_0
def T104_0 : List (List AV × AV) := [
  ([.agg [.sl 0 [] true, .sl 0 [] true], .str [109, 49]], .sl 0 [] true),
  ([v8, .str [109, 49]], .sl 1 [.int .i64 0] false),
  ([v8, .str [109, 57]], .sl 1 [.int .i64 0] false),
  ([v8, .str [109, 97]], .sl 1 [.int .i64 0] false),
  ([v8, .str [109, 98]], .sl 1 [.int .i64 0] false),
  ([v8, .str [109, 99]], .sl 1 [.int .i64 0] false),
  ([v8, .str [109, 100]], .sl 1 [.int .i64 0] false)]
def T104_1 : List (List AV × AV) := [
  ([v8, .str [109, 101]], .sl 1 [.int .i64 0] false)]
def T104 : List (List AV × AV) := T104_0 ++ T104_1
def T268_0 : List (List AV × AV) := [
  ([.str [97, 98, 99, 100, 101, 102, 103, 104, 105, 106, 107, 108, 109, 110, 111, 112, 113, 114, 115, 116, 117, 118, 119, 120, 121, 122, 48, 49, 50, 51, 52, 53, 54, 55, 56, 57]], .tup [.agg [.bool false, .bool false, .bool false, .bool false, .bool false, .bool false, .bool false, .bool false, .bool false, .bool false, .bool false, .bool false, .bool false, .bool false, .bool false, .bool false, .bool false, .bool false, .bool false, .bool false, .bool false, .bool false, .bool false, .bool false, .bool false, .bool false, .bool false, .bool false, .bool false, .bool false, .bool false, .bool false, .bool false, .bool false, .bool false, .bool false, .bool false, .bool false, .bool false, .bool false, .bool false, .bool false, .bool false, .bool false, .bool false, .bool false, .bool false, .bool false, .bool true, .bool true, .bool true, .bool true, .bool true, .bool true, .bool true, .bool true, .bool true, .bool true, .bool false, .bool false, .bool false, .bool false, .bool false, .bool false, .bool false, .bool false, .bool false, .bool false, .bool false, .bool false, .bool false, .bool false, .bool false, .bool false, .bool false, .bool false, .bool false, .bool false, .bool false, .bool false, .bool false, .bool false, .bool false, .bool false, .bool false, .bool false, .bool false, .bool false, .bool false, .bool false, .bool false, .bool false, .bool false, .bool false, .bool false, .bool false, .bool false, .bool true, .bool true, .bool true, .bool true, .bool true, .bool true, .bool true, .bool true, .bool true, .bool true, .bool true, .bool true, .bool true, .bool true, .bool true, .bool true, .bool true, .bool true, .bool true, .bool true, .bool true, .bool true, .bool true, .bool true, .bool true, .bool true, .bool false, .bool false, .bool false, .bool false, .bool false, .bool false, .bool false, .bool false, .bool false, .bool false, .bool false, .bool false, .bool false, .bool false, .bool false, .bool false, .bool false, .bool false, .bool false, .bool false, .bool false, .bool false, .bool false, .bool false, .bool false, .bool false, .bool false, .bool false, .bool false, .bool false, .bool false, .bool false, .bool false, .bool false, .bool false, .bool false, .bool false, .bool false, .bool false, .bool false, .bool false, .bool false, .bool false, .bool false, .bool false, .bool false, .bool false, .bool false, .bool false, .bool false, .bool false, .bool false, .bool false, .bool false, .bool false, .bool false, .bool false, .bool false, .bool false, .bool false, .bool false, .bool false, .bool false, .bool false, .bool false, .bool false, .bool false, .bool false, .bool false, .bool false, .bool false, .bool false, .bool false, .bool false, .bool false, .bool false, .bool false, .bool false, .bool false, .bool false, .bool false, .bool false, .bool false, .bool false, .bool false, .bool false, .bool false, .bool false, .bool false, .bool false, .bool false, .bool false, .bool false, .bool false, .bool false, .bool false, .bool false, .bool false, .bool false, .bool false, .bool false, .bool false, .bool false, .bool false, .bool false, .bool false, .bool false, .bool false, .bool false, .bool false, .bool false, .bool false, .bool false, .bool false, .bool false, .bool false, .bool false, .bool false, .bool false, .bool false, .bool false, .bool false, .bool false, .bool false, .bool false, .bool false, .bool false, .bool false, .bool false, .bool false, .bool false, .bool false, .bool false], .bool true])]
def T268 : List (List AV × AV) := T268_0
def T138_0 : List (List AV × AV) := [
  ([.str [109, 49]], .bool true),
  ([.str [109, 57]], .bool true),
  ([.str [109, 97]], .bool true),
  ([.str [109, 98]], .bool true),
  ([.str [109, 99]], .bool true),
  ([.str [109, 100]], .bool true),
  ([.str [109, 101]], .bool true)]
def T138 : List (List AV × AV) := T138_0
def T141_0 : List (List AV × AV) := [
  ([.agg [.int .i64 1, .sl 0 [] true], v2], .bool true),
  ([.agg [.int .i64 1, .sl 0 [] true], v1], .bool true),
  ([.agg [.int .i64 1, .sl 0 [] true], v3], .bool true),
  ([.agg [.int .i64 1, .sl 0 [] true], v4], .bool true),
  ([.agg [.int .i64 1, .sl 0 [] true], v5], .bool true),
  ([.agg [.int .i64 1, .sl 0 [] true], v6], .bool true)]
def T141 : List (List AV × AV) := T141_0
def T150_0 : List (List AV × AV) := [
  ([.agg [.int .i64 1, .sl 0 [] true], v1, v2], .tup [v2, .nilIface]),
  ([.agg [.int .i64 1, .sl 0 [] true], v2, v1], .tup [v2, .nilIface]),
  ([.agg [.int .i64 1, .sl 0 [] true], v1, v3], .tup [v3, .nilIface]),
  ([.agg [.int .i64 1, .sl 0 [] true], v3, v1], .tup [v3, .nilIface]),
  ([.agg [.int .i64 1, .sl 0 [] true], v1, v4], .tup [v4, .nilIface]),
  ([.agg [.int .i64 1, .sl 0 [] true], v4, v1], .tup [v4, .nilIface]),
  ([.agg [.int .i64 1, .sl 0 [] true], v1, v5], .tup [v5, .nilIface]),
  ([.agg [.int .i64 1, .sl 0 [] true], v5, v1], .tup [v5, .nilIface]),
  ([.agg [.int .i64 1, .sl 0 [] true], v1, v6], .tup [v6, .nilIface]),
  ([.agg [.int .i64 1, .sl 0 [] true], v6, v1], .tup [v6, .nilIface])]
def T150 : List (List AV × AV) := T150_0
def T15_0 : List (List AV × AV) := [
  ([], .bool true)]
def T15 : List (List AV × AV) := T15_0
end Go.Proofs.PxDt
