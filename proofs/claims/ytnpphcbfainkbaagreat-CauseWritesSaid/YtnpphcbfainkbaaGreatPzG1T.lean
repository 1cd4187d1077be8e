/- What is told of calls: the tables. -/
import Derived.Test.YtnpphcbfainkbaaGreatPxMm
set_option linter.unusedVariables false
set_option linter.unusedSimpArgs false
set_option maxRecDepth 100000
namespace Go.Proofs.PxG1
open Go Go.Px

def v0 : AV := .agg [.int .u64 0, .int .u64 0, .sl 0 [] true, .sl 0 [] true, .sl 0 [] true]
def v1 : AV := .sl 2 [.int .u64 0, .int .u64 0, .sl 0 [] true, .sl 0 [] true, .sl 0 [] true, .int .u64 0, .int .u64 0, .sl 0 [] true, .sl 0 [] true, .sl 0 [] true] false
def v2 : AV := .agg [.int .u64 0, .int .u64 0, .sl 0 [] true, .sl 1 [.sl 1 [.int .i64 10, .int .u64 1] false] false, .sl 1 [.int .u64 0, .int .u64 0, .sl 0 [] true, .sl 0 [] true, v1] false]
def v3 : AV := .agg [.int .u64 1, .int .u64 0, .sl 0 [] true, .sl 0 [] true, .sl 0 [] true]
def v4 : AV := .sl 2 [.int .u64 0, .int .u64 0, .sl 0 [] true, .sl 0 [] true, .sl 0 [] true, .int .u64 1, .int .u64 0, .sl 0 [] true, .sl 0 [] true, .sl 0 [] true] false
def v5 : AV := .sl 1 [.int .u64 0, .int .u64 0, .sl 0 [] true, .sl 0 [] true, v4] false
def v6 : AV := .agg [.int .u64 0, .int .u64 0, .sl 0 [] true, .sl 1 [.sl 1 [.int .i64 11, .int .u64 1] false] false, v5]
def v7 : AV := .sl 2 [.int .i64 10, .int .u64 1, .int .i64 11, .int .u64 1] false
def v8 : AV := .agg [.int .u64 0, .int .u64 0, .sl 0 [] true, .sl 1 [v7] false, v5]
def v9 : AV := .agg [.int .u64 2, .int .u64 0, .sl 0 [] true, .sl 0 [] true, .sl 0 [] true]
def v10 : AV := .sl 2 [.int .u64 0, .int .u64 0, .sl 0 [] true, .sl 0 [] true, .sl 0 [] true, .int .u64 2, .int .u64 0, .sl 0 [] true, .sl 0 [] true, .sl 0 [] true] false
def v11 : AV := .sl 1 [.int .u64 0, .int .u64 0, .sl 0 [] true, .sl 0 [] true, v10] false
def v12 : AV := .agg [.int .u64 0, .int .u64 0, .sl 0 [] true, .sl 1 [.sl 1 [.int .i64 12, .int .u64 1] false] false, v11]
def v13 : AV := .agg [.int .u64 0, .int .u64 0, .sl 0 [] true, .sl 2 [.sl 1 [.int .i64 10, .int .u64 1] false, .sl 1 [.int .i64 11, .int .u64 1] false] false, .sl 2 [.int .u64 0, .int .u64 0, .sl 0 [] true, .sl 0 [] true, v1, .int .u64 0, .int .u64 0, .sl 0 [] true, .sl 0 [] true, v4] false]
def v14 : AV := .sl 3 [.int .i64 10, .int .u64 1, .int .i64 11, .int .u64 1, .int .i64 12, .int .u64 1] false
def v15 : AV := .agg [.int .u64 0, .int .u64 0, .sl 0 [] true, .sl 1 [v14] false, v11]
def v16 : AV := .agg [.int .u64 3, .int .u64 0, .sl 0 [] true, .sl 0 [] true, .sl 0 [] true]
def v17 : AV := .sl 2 [.int .u64 0, .int .u64 0, .sl 0 [] true, .sl 0 [] true, .sl 0 [] true, .int .u64 3, .int .u64 0, .sl 0 [] true, .sl 0 [] true, .sl 0 [] true] false
def v18 : AV := .sl 1 [.int .u64 0, .int .u64 0, .sl 0 [] true, .sl 0 [] true, v17] false
def v19 : AV := .agg [.int .u64 0, .int .u64 0, .sl 0 [] true, .sl 1 [.sl 1 [.int .i64 13, .int .u64 1] false] false, v18]
def v20 : AV := .agg [.int .u64 0, .int .u64 0, .sl 0 [] true, .sl 3 [.sl 1 [.int .i64 10, .int .u64 1] false, .sl 1 [.int .i64 11, .int .u64 1] false, .sl 1 [.int .i64 12, .int .u64 1] false] false, .sl 3 [.int .u64 0, .int .u64 0, .sl 0 [] true, .sl 0 [] true, v1, .int .u64 0, .int .u64 0, .sl 0 [] true, .sl 0 [] true, v4, .int .u64 0, .int .u64 0, .sl 0 [] true, .sl 0 [] true, v10] false]
def v21 : AV := .sl 4 [.int .i64 10, .int .u64 1, .int .i64 11, .int .u64 1, .int .i64 12, .int .u64 1, .int .i64 13, .int .u64 1] false
def v22 : AV := .agg [.int .u64 0, .int .u64 0, .sl 0 [] true, .sl 1 [v21] false, v18]
def v23 : AV := .agg [.int .u64 0, .int .u64 0, .sl 0 [] true, .sl 2 [v7, .sl 1 [.int .i64 12, .int .u64 1] false] false, .sl 2 [.int .u64 0, .int .u64 0, .sl 0 [] true, .sl 0 [] true, v4, .int .u64 0, .int .u64 0, .sl 0 [] true, .sl 0 [] true, v10] false]
def v24 : AV := .agg [.int .u64 4, .int .u64 0, .sl 0 [] true, .sl 0 [] true, .sl 0 [] true]
def v25 : AV := .sl 2 [.int .u64 0, .int .u64 0, .sl 0 [] true, .sl 0 [] true, .sl 0 [] true, .int .u64 4, .int .u64 0, .sl 0 [] true, .sl 0 [] true, .sl 0 [] true] false
def v26 : AV := .sl 1 [.int .u64 0, .int .u64 0, .sl 0 [] true, .sl 0 [] true, v25] false
def v27 : AV := .agg [.int .u64 0, .int .u64 0, .sl 0 [] true, .sl 1 [.sl 1 [.int .i64 14, .int .u64 1] false] false, v26]
def v28 : AV := .agg [.int .u64 0, .int .u64 0, .sl 0 [] true, .sl 4 [.sl 1 [.int .i64 10, .int .u64 1] false, .sl 1 [.int .i64 11, .int .u64 1] false, .sl 1 [.int .i64 12, .int .u64 1] false, .sl 1 [.int .i64 13, .int .u64 1] false] false, .sl 4 [.int .u64 0, .int .u64 0, .sl 0 [] true, .sl 0 [] true, v1, .int .u64 0, .int .u64 0, .sl 0 [] true, .sl 0 [] true, v4, .int .u64 0, .int .u64 0, .sl 0 [] true, .sl 0 [] true, v10, .int .u64 0, .int .u64 0, .sl 0 [] true, .sl 0 [] true, v17] false]
def v29 : AV := .sl 5 [.int .i64 10, .int .u64 1, .int .i64 11, .int .u64 1, .int .i64 12, .int .u64 1, .int .i64 13, .int .u64 1, .int .i64 14, .int .u64 1] false
def v30 : AV := .agg [.int .u64 0, .int .u64 0, .sl 0 [] true, .sl 1 [v29] false, v26]
def v31 : AV := .agg [.int .u64 0, .int .u64 0, .sl 0 [] true, .sl 3 [v7, .sl 1 [.int .i64 12, .int .u64 1] false, .sl 1 [.int .i64 13, .int .u64 1] false] false, .sl 3 [.int .u64 0, .int .u64 0, .sl 0 [] true, .sl 0 [] true, v4, .int .u64 0, .int .u64 0, .sl 0 [] true, .sl 0 [] true, v10, .int .u64 0, .int .u64 0, .sl 0 [] true, .sl 0 [] true, v17] false]
def v32 : AV := .agg [.int .u64 0, .int .u64 0, .sl 0 [] true, .sl 2 [v14, .sl 1 [.int .i64 13, .int .u64 1] false] false, .sl 2 [.int .u64 0, .int .u64 0, .sl 0 [] true, .sl 0 [] true, v10, .int .u64 0, .int .u64 0, .sl 0 [] true, .sl 0 [] true, v17] false]
def v33 : AV := .agg [.int .u64 5, .int .u64 0, .sl 0 [] true, .sl 0 [] true, .sl 0 [] true]
def v34 : AV := .sl 2 [.int .u64 0, .int .u64 0, .sl 0 [] true, .sl 0 [] true, .sl 0 [] true, .int .u64 5, .int .u64 0, .sl 0 [] true, .sl 0 [] true, .sl 0 [] true] false
def v35 : AV := .sl 1 [.int .u64 0, .int .u64 0, .sl 0 [] true, .sl 0 [] true, v34] false
def v36 : AV := .agg [.int .u64 0, .int .u64 0, .sl 0 [] true, .sl 1 [.sl 1 [.int .i64 15, .int .u64 1] false] false, v35]
def v37 : AV := .agg [.int .u64 0, .int .u64 0, .sl 0 [] true, .sl 5 [.sl 1 [.int .i64 10, .int .u64 1] false, .sl 1 [.int .i64 11, .int .u64 1] false, .sl 1 [.int .i64 12, .int .u64 1] false, .sl 1 [.int .i64 13, .int .u64 1] false, .sl 1 [.int .i64 14, .int .u64 1] false] false, .sl 5 [.int .u64 0, .int .u64 0, .sl 0 [] true, .sl 0 [] true, v1, .int .u64 0, .int .u64 0, .sl 0 [] true, .sl 0 [] true, v4, .int .u64 0, .int .u64 0, .sl 0 [] true, .sl 0 [] true, v10, .int .u64 0, .int .u64 0, .sl 0 [] true, .sl 0 [] true, v17, .int .u64 0, .int .u64 0, .sl 0 [] true, .sl 0 [] true, v25] false]
def v38 : AV := .sl 6 [.int .i64 10, .int .u64 1, .int .i64 11, .int .u64 1, .int .i64 12, .int .u64 1, .int .i64 13, .int .u64 1, .int .i64 14, .int .u64 1, .int .i64 15, .int .u64 1] false
def v39 : AV := .agg [.int .u64 0, .int .u64 0, .sl 0 [] true, .sl 1 [v38] false, v35]
def v40 : AV := .agg [.int .u64 0, .int .u64 0, .sl 0 [] true, .sl 4 [v7, .sl 1 [.int .i64 12, .int .u64 1] false, .sl 1 [.int .i64 13, .int .u64 1] false, .sl 1 [.int .i64 14, .int .u64 1] false] false, .sl 4 [.int .u64 0, .int .u64 0, .sl 0 [] true, .sl 0 [] true, v4, .int .u64 0, .int .u64 0, .sl 0 [] true, .sl 0 [] true, v10, .int .u64 0, .int .u64 0, .sl 0 [] true, .sl 0 [] true, v17, .int .u64 0, .int .u64 0, .sl 0 [] true, .sl 0 [] true, v25] false]
def v41 : AV := .agg [.int .u64 0, .int .u64 0, .sl 0 [] true, .sl 3 [v14, .sl 1 [.int .i64 13, .int .u64 1] false, .sl 1 [.int .i64 14, .int .u64 1] false] false, .sl 3 [.int .u64 0, .int .u64 0, .sl 0 [] true, .sl 0 [] true, v10, .int .u64 0, .int .u64 0, .sl 0 [] true, .sl 0 [] true, v17, .int .u64 0, .int .u64 0, .sl 0 [] true, .sl 0 [] true, v25] false]
def v42 : AV := .agg [.int .u64 0, .int .u64 0, .sl 0 [] true, .sl 2 [v21, .sl 1 [.int .i64 14, .int .u64 1] false] false, .sl 2 [.int .u64 0, .int .u64 0, .sl 0 [] true, .sl 0 [] true, v17, .int .u64 0, .int .u64 0, .sl 0 [] true, .sl 0 [] true, v25] false]
def v43 : AV := .agg [.int .u64 6, .int .u64 0, .sl 0 [] true, .sl 0 [] true, .sl 0 [] true]
def v44 : AV := .sl 2 [.int .u64 0, .int .u64 0, .sl 0 [] true, .sl 0 [] true, .sl 0 [] true, .int .u64 6, .int .u64 0, .sl 0 [] true, .sl 0 [] true, .sl 0 [] true] false
def v45 : AV := .sl 1 [.int .u64 0, .int .u64 0, .sl 0 [] true, .sl 0 [] true, v44] false
def v46 : AV := .agg [.int .u64 0, .int .u64 0, .sl 0 [] true, .sl 1 [.sl 1 [.int .i64 16, .int .u64 1] false] false, v45]
def v47 : AV := .agg [.int .u64 0, .int .u64 0, .sl 0 [] true, .sl 6 [.sl 1 [.int .i64 10, .int .u64 1] false, .sl 1 [.int .i64 11, .int .u64 1] false, .sl 1 [.int .i64 12, .int .u64 1] false, .sl 1 [.int .i64 13, .int .u64 1] false, .sl 1 [.int .i64 14, .int .u64 1] false, .sl 1 [.int .i64 15, .int .u64 1] false] false, .sl 6 [.int .u64 0, .int .u64 0, .sl 0 [] true, .sl 0 [] true, v1, .int .u64 0, .int .u64 0, .sl 0 [] true, .sl 0 [] true, v4, .int .u64 0, .int .u64 0, .sl 0 [] true, .sl 0 [] true, v10, .int .u64 0, .int .u64 0, .sl 0 [] true, .sl 0 [] true, v17, .int .u64 0, .int .u64 0, .sl 0 [] true, .sl 0 [] true, v25, .int .u64 0, .int .u64 0, .sl 0 [] true, .sl 0 [] true, v34] false]
def v48 : AV := .sl 7 [.int .i64 10, .int .u64 1, .int .i64 11, .int .u64 1, .int .i64 12, .int .u64 1, .int .i64 13, .int .u64 1, .int .i64 14, .int .u64 1, .int .i64 15, .int .u64 1, .int .i64 16, .int .u64 1] false
def v49 : AV := .agg [.int .u64 0, .int .u64 0, .sl 0 [] true, .sl 1 [v48] false, v45]
def v50 : AV := .agg [.int .u64 0, .int .u64 0, .sl 0 [] true, .sl 5 [v7, .sl 1 [.int .i64 12, .int .u64 1] false, .sl 1 [.int .i64 13, .int .u64 1] false, .sl 1 [.int .i64 14, .int .u64 1] false, .sl 1 [.int .i64 15, .int .u64 1] false] false, .sl 5 [.int .u64 0, .int .u64 0, .sl 0 [] true, .sl 0 [] true, v4, .int .u64 0, .int .u64 0, .sl 0 [] true, .sl 0 [] true, v10, .int .u64 0, .int .u64 0, .sl 0 [] true, .sl 0 [] true, v17, .int .u64 0, .int .u64 0, .sl 0 [] true, .sl 0 [] true, v25, .int .u64 0, .int .u64 0, .sl 0 [] true, .sl 0 [] true, v34] false]
def v51 : AV := .agg [.int .u64 0, .int .u64 0, .sl 0 [] true, .sl 4 [v14, .sl 1 [.int .i64 13, .int .u64 1] false, .sl 1 [.int .i64 14, .int .u64 1] false, .sl 1 [.int .i64 15, .int .u64 1] false] false, .sl 4 [.int .u64 0, .int .u64 0, .sl 0 [] true, .sl 0 [] true, v10, .int .u64 0, .int .u64 0, .sl 0 [] true, .sl 0 [] true, v17, .int .u64 0, .int .u64 0, .sl 0 [] true, .sl 0 [] true, v25, .int .u64 0, .int .u64 0, .sl 0 [] true, .sl 0 [] true, v34] false]
def v52 : AV := .agg [.int .u64 0, .int .u64 0, .sl 0 [] true, .sl 3 [v21, .sl 1 [.int .i64 14, .int .u64 1] false, .sl 1 [.int .i64 15, .int .u64 1] false] false, .sl 3 [.int .u64 0, .int .u64 0, .sl 0 [] true, .sl 0 [] true, v17, .int .u64 0, .int .u64 0, .sl 0 [] true, .sl 0 [] true, v25, .int .u64 0, .int .u64 0, .sl 0 [] true, .sl 0 [] true, v34] false]
def v53 : AV := .agg [.int .u64 0, .int .u64 0, .sl 0 [] true, .sl 2 [v29, .sl 1 [.int .i64 15, .int .u64 1] false] false, .sl 2 [.int .u64 0, .int .u64 0, .sl 0 [] true, .sl 0 [] true, v25, .int .u64 0, .int .u64 0, .sl 0 [] true, .sl 0 [] true, v34] false]
def v54 : AV := .agg [.int .u64 7, .int .u64 0, .sl 0 [] true, .sl 0 [] true, .sl 0 [] true]
def v55 : AV := .sl 2 [.int .u64 0, .int .u64 0, .sl 0 [] true, .sl 0 [] true, .sl 0 [] true, .int .u64 7, .int .u64 0, .sl 0 [] true, .sl 0 [] true, .sl 0 [] true] false
def v56 : AV := .sl 1 [.int .u64 0, .int .u64 0, .sl 0 [] true, .sl 0 [] true, v55] false
def v57 : AV := .agg [.int .u64 0, .int .u64 0, .sl 0 [] true, .sl 1 [.sl 1 [.int .i64 17, .int .u64 1] false] false, v56]
def v58 : AV := .agg [.int .u64 0, .int .u64 0, .sl 0 [] true, .sl 7 [.sl 1 [.int .i64 10, .int .u64 1] false, .sl 1 [.int .i64 11, .int .u64 1] false, .sl 1 [.int .i64 12, .int .u64 1] false, .sl 1 [.int .i64 13, .int .u64 1] false, .sl 1 [.int .i64 14, .int .u64 1] false, .sl 1 [.int .i64 15, .int .u64 1] false, .sl 1 [.int .i64 16, .int .u64 1] false] false, .sl 7 [.int .u64 0, .int .u64 0, .sl 0 [] true, .sl 0 [] true, v1, .int .u64 0, .int .u64 0, .sl 0 [] true, .sl 0 [] true, v4, .int .u64 0, .int .u64 0, .sl 0 [] true, .sl 0 [] true, v10, .int .u64 0, .int .u64 0, .sl 0 [] true, .sl 0 [] true, v17, .int .u64 0, .int .u64 0, .sl 0 [] true, .sl 0 [] true, v25, .int .u64 0, .int .u64 0, .sl 0 [] true, .sl 0 [] true, v34, .int .u64 0, .int .u64 0, .sl 0 [] true, .sl 0 [] true, v44] false]
def v59 : AV := .agg [.int .u64 0, .int .u64 0, .sl 0 [] true, .sl 1 [.sl 8 [.int .i64 10, .int .u64 1, .int .i64 11, .int .u64 1, .int .i64 12, .int .u64 1, .int .i64 13, .int .u64 1, .int .i64 14, .int .u64 1, .int .i64 15, .int .u64 1, .int .i64 16, .int .u64 1, .int .i64 17, .int .u64 1] false] false, v56]
def v60 : AV := .agg [.int .u64 0, .int .u64 0, .sl 0 [] true, .sl 6 [v7, .sl 1 [.int .i64 12, .int .u64 1] false, .sl 1 [.int .i64 13, .int .u64 1] false, .sl 1 [.int .i64 14, .int .u64 1] false, .sl 1 [.int .i64 15, .int .u64 1] false, .sl 1 [.int .i64 16, .int .u64 1] false] false, .sl 6 [.int .u64 0, .int .u64 0, .sl 0 [] true, .sl 0 [] true, v4, .int .u64 0, .int .u64 0, .sl 0 [] true, .sl 0 [] true, v10, .int .u64 0, .int .u64 0, .sl 0 [] true, .sl 0 [] true, v17, .int .u64 0, .int .u64 0, .sl 0 [] true, .sl 0 [] true, v25, .int .u64 0, .int .u64 0, .sl 0 [] true, .sl 0 [] true, v34, .int .u64 0, .int .u64 0, .sl 0 [] true, .sl 0 [] true, v44] false]
def v61 : AV := .agg [.int .u64 0, .int .u64 0, .sl 0 [] true, .sl 5 [v14, .sl 1 [.int .i64 13, .int .u64 1] false, .sl 1 [.int .i64 14, .int .u64 1] false, .sl 1 [.int .i64 15, .int .u64 1] false, .sl 1 [.int .i64 16, .int .u64 1] false] false, .sl 5 [.int .u64 0, .int .u64 0, .sl 0 [] true, .sl 0 [] true, v10, .int .u64 0, .int .u64 0, .sl 0 [] true, .sl 0 [] true, v17, .int .u64 0, .int .u64 0, .sl 0 [] true, .sl 0 [] true, v25, .int .u64 0, .int .u64 0, .sl 0 [] true, .sl 0 [] true, v34, .int .u64 0, .int .u64 0, .sl 0 [] true, .sl 0 [] true, v44] false]
def v62 : AV := .agg [.int .u64 0, .int .u64 0, .sl 0 [] true, .sl 4 [v21, .sl 1 [.int .i64 14, .int .u64 1] false, .sl 1 [.int .i64 15, .int .u64 1] false, .sl 1 [.int .i64 16, .int .u64 1] false] false, .sl 4 [.int .u64 0, .int .u64 0, .sl 0 [] true, .sl 0 [] true, v17, .int .u64 0, .int .u64 0, .sl 0 [] true, .sl 0 [] true, v25, .int .u64 0, .int .u64 0, .sl 0 [] true, .sl 0 [] true, v34, .int .u64 0, .int .u64 0, .sl 0 [] true, .sl 0 [] true, v44] false]
def v63 : AV := .agg [.int .u64 0, .int .u64 0, .sl 0 [] true, .sl 3 [v29, .sl 1 [.int .i64 15, .int .u64 1] false, .sl 1 [.int .i64 16, .int .u64 1] false] false, .sl 3 [.int .u64 0, .int .u64 0, .sl 0 [] true, .sl 0 [] true, v25, .int .u64 0, .int .u64 0, .sl 0 [] true, .sl 0 [] true, v34, .int .u64 0, .int .u64 0, .sl 0 [] true, .sl 0 [] true, v44] false]
def v64 : AV := .agg [.int .u64 0, .int .u64 0, .sl 0 [] true, .sl 2 [v38, .sl 1 [.int .i64 16, .int .u64 1] false] false, .sl 2 [.int .u64 0, .int .u64 0, .sl 0 [] true, .sl 0 [] true, v34, .int .u64 0, .int .u64 0, .sl 0 [] true, .sl 0 [] true, v44] false]
def v65 : AV := .agg [.int .i64 8, .sl 1 [.int .i64 5, .sl 2 [.int .i64 4, .sl 1 [.int .i64 7, .sl 0 [] true] false, .int .i64 1, .sl 0 [] true] false] false]
def v66 : AV := .agg [.int .u64 0, .int .u64 0, .sl 0 [] true, .sl 8 [.sl 1 [.int .i64 10, .int .u64 1] false, .sl 1 [.int .i64 11, .int .u64 1] false, .sl 1 [.int .i64 12, .int .u64 1] false, .sl 1 [.int .i64 13, .int .u64 1] false, .sl 1 [.int .i64 14, .int .u64 1] false, .sl 1 [.int .i64 15, .int .u64 1] false, .sl 1 [.int .i64 16, .int .u64 1] false, .sl 1 [.int .i64 17, .int .u64 1] false] false, .sl 8 [.int .u64 0, .int .u64 0, .sl 0 [] true, .sl 0 [] true, v1, .int .u64 0, .int .u64 0, .sl 0 [] true, .sl 0 [] true, v4, .int .u64 0, .int .u64 0, .sl 0 [] true, .sl 0 [] true, v10, .int .u64 0, .int .u64 0, .sl 0 [] true, .sl 0 [] true, v17, .int .u64 0, .int .u64 0, .sl 0 [] true, .sl 0 [] true, v25, .int .u64 0, .int .u64 0, .sl 0 [] true, .sl 0 [] true, v34, .int .u64 0, .int .u64 0, .sl 0 [] true, .sl 0 [] true, v44, .int .u64 0, .int .u64 0, .sl 0 [] true, .sl 0 [] true, v55] false]
def v67 : AV := .agg [.int .u64 0, .int .u64 0, .sl 0 [] true, .sl 7 [v7, .sl 1 [.int .i64 12, .int .u64 1] false, .sl 1 [.int .i64 13, .int .u64 1] false, .sl 1 [.int .i64 14, .int .u64 1] false, .sl 1 [.int .i64 15, .int .u64 1] false, .sl 1 [.int .i64 16, .int .u64 1] false, .sl 1 [.int .i64 17, .int .u64 1] false] false, .sl 7 [.int .u64 0, .int .u64 0, .sl 0 [] true, .sl 0 [] true, v4, .int .u64 0, .int .u64 0, .sl 0 [] true, .sl 0 [] true, v10, .int .u64 0, .int .u64 0, .sl 0 [] true, .sl 0 [] true, v17, .int .u64 0, .int .u64 0, .sl 0 [] true, .sl 0 [] true, v25, .int .u64 0, .int .u64 0, .sl 0 [] true, .sl 0 [] true, v34, .int .u64 0, .int .u64 0, .sl 0 [] true, .sl 0 [] true, v44, .int .u64 0, .int .u64 0, .sl 0 [] true, .sl 0 [] true, v55] false]
def v68 : AV := .agg [.int .u64 0, .int .u64 0, .sl 0 [] true, .sl 6 [v14, .sl 1 [.int .i64 13, .int .u64 1] false, .sl 1 [.int .i64 14, .int .u64 1] false, .sl 1 [.int .i64 15, .int .u64 1] false, .sl 1 [.int .i64 16, .int .u64 1] false, .sl 1 [.int .i64 17, .int .u64 1] false] false, .sl 6 [.int .u64 0, .int .u64 0, .sl 0 [] true, .sl 0 [] true, v10, .int .u64 0, .int .u64 0, .sl 0 [] true, .sl 0 [] true, v17, .int .u64 0, .int .u64 0, .sl 0 [] true, .sl 0 [] true, v25, .int .u64 0, .int .u64 0, .sl 0 [] true, .sl 0 [] true, v34, .int .u64 0, .int .u64 0, .sl 0 [] true, .sl 0 [] true, v44, .int .u64 0, .int .u64 0, .sl 0 [] true, .sl 0 [] true, v55] false]
def v69 : AV := .agg [.int .u64 0, .int .u64 0, .sl 0 [] true, .sl 5 [v21, .sl 1 [.int .i64 14, .int .u64 1] false, .sl 1 [.int .i64 15, .int .u64 1] false, .sl 1 [.int .i64 16, .int .u64 1] false, .sl 1 [.int .i64 17, .int .u64 1] false] false, .sl 5 [.int .u64 0, .int .u64 0, .sl 0 [] true, .sl 0 [] true, v17, .int .u64 0, .int .u64 0, .sl 0 [] true, .sl 0 [] true, v25, .int .u64 0, .int .u64 0, .sl 0 [] true, .sl 0 [] true, v34, .int .u64 0, .int .u64 0, .sl 0 [] true, .sl 0 [] true, v44, .int .u64 0, .int .u64 0, .sl 0 [] true, .sl 0 [] true, v55] false]
def v70 : AV := .agg [.int .u64 0, .int .u64 0, .sl 0 [] true, .sl 4 [v29, .sl 1 [.int .i64 15, .int .u64 1] false, .sl 1 [.int .i64 16, .int .u64 1] false, .sl 1 [.int .i64 17, .int .u64 1] false] false, .sl 4 [.int .u64 0, .int .u64 0, .sl 0 [] true, .sl 0 [] true, v25, .int .u64 0, .int .u64 0, .sl 0 [] true, .sl 0 [] true, v34, .int .u64 0, .int .u64 0, .sl 0 [] true, .sl 0 [] true, v44, .int .u64 0, .int .u64 0, .sl 0 [] true, .sl 0 [] true, v55] false]
def v71 : AV := .agg [.int .u64 0, .int .u64 0, .sl 0 [] true, .sl 3 [v38, .sl 1 [.int .i64 16, .int .u64 1] false, .sl 1 [.int .i64 17, .int .u64 1] false] false, .sl 3 [.int .u64 0, .int .u64 0, .sl 0 [] true, .sl 0 [] true, v34, .int .u64 0, .int .u64 0, .sl 0 [] true, .sl 0 [] true, v44, .int .u64 0, .int .u64 0, .sl 0 [] true, .sl 0 [] true, v55] false]
def v72 : AV := .agg [.int .u64 0, .int .u64 0, .sl 0 [] true, .sl 2 [v48, .sl 1 [.int .i64 17, .int .u64 1] false] false, .sl 2 [.int .u64 0, .int .u64 0, .sl 0 [] true, .sl 0 [] true, v44, .int .u64 0, .int .u64 0, .sl 0 [] true, .sl 0 [] true, v55] false]
def T7_0 : List (List AV × AV) := [
  ([.agg [.int .i64 1, .sl 0 [] true], v0, .int .i64 10, .sl 0 [] true, v0], .tup [v2, .nilIface]),
  ([.agg [.int .i64 1, .sl 0 [] true], v0, .int .i64 11, .sl 0 [] true, v3], .tup [v6, .nilIface]),
  ([.agg [.int .i64 1, .sl 0 [] true], v2, .int .i64 11, .sl 0 [] true, v3], .tup [v8, .nilIface]),
  ([.agg [.int .i64 1, .sl 0 [] true], v0, .int .i64 12, .sl 0 [] true, v9], .tup [v12, .nilIface]),
  ([.agg [.int .i64 1, .sl 0 [] true], v13, .int .i64 12, .sl 0 [] true, v9], .tup [v15, .nilIface]),
  ([.agg [.int .i64 1, .sl 0 [] true], v8, .int .i64 12, .sl 0 [] true, v9], .tup [v15, .nilIface])]
def T7_1 : List (List AV × AV) := [
  ([.agg [.int .i64 1, .sl 0 [] true], v0, .int .i64 13, .sl 0 [] true, v16], .tup [v19, .nilIface]),
  ([.agg [.int .i64 1, .sl 0 [] true], v20, .int .i64 13, .sl 0 [] true, v16], .tup [v22, .nilIface]),
  ([.agg [.int .i64 1, .sl 0 [] true], v23, .int .i64 13, .sl 0 [] true, v16], .tup [v22, .nilIface]),
  ([.agg [.int .i64 1, .sl 0 [] true], v15, .int .i64 13, .sl 0 [] true, v16], .tup [v22, .nilIface]),
  ([.agg [.int .i64 1, .sl 0 [] true], v0, .int .i64 14, .sl 0 [] true, v24], .tup [v27, .nilIface]),
  ([.agg [.int .i64 1, .sl 0 [] true], v28, .int .i64 14, .sl 0 [] true, v24], .tup [v30, .nilIface])]
def T7_2 : List (List AV × AV) := [
  ([.agg [.int .i64 1, .sl 0 [] true], v31, .int .i64 14, .sl 0 [] true, v24], .tup [v30, .nilIface]),
  ([.agg [.int .i64 1, .sl 0 [] true], v32, .int .i64 14, .sl 0 [] true, v24], .tup [v30, .nilIface]),
  ([.agg [.int .i64 1, .sl 0 [] true], v22, .int .i64 14, .sl 0 [] true, v24], .tup [v30, .nilIface]),
  ([.agg [.int .i64 1, .sl 0 [] true], v0, .int .i64 15, .sl 0 [] true, v33], .tup [v36, .nilIface]),
  ([.agg [.int .i64 1, .sl 0 [] true], v37, .int .i64 15, .sl 0 [] true, v33], .tup [v39, .nilIface]),
  ([.agg [.int .i64 1, .sl 0 [] true], v40, .int .i64 15, .sl 0 [] true, v33], .tup [v39, .nilIface])]
def T7_3 : List (List AV × AV) := [
  ([.agg [.int .i64 1, .sl 0 [] true], v41, .int .i64 15, .sl 0 [] true, v33], .tup [v39, .nilIface]),
  ([.agg [.int .i64 1, .sl 0 [] true], v42, .int .i64 15, .sl 0 [] true, v33], .tup [v39, .nilIface]),
  ([.agg [.int .i64 1, .sl 0 [] true], v30, .int .i64 15, .sl 0 [] true, v33], .tup [v39, .nilIface]),
  ([.agg [.int .i64 1, .sl 0 [] true], v0, .int .i64 16, .sl 0 [] true, v43], .tup [v46, .nilIface]),
  ([.agg [.int .i64 1, .sl 0 [] true], v47, .int .i64 16, .sl 0 [] true, v43], .tup [v49, .nilIface]),
  ([.agg [.int .i64 1, .sl 0 [] true], v50, .int .i64 16, .sl 0 [] true, v43], .tup [v49, .nilIface])]
def T7_4 : List (List AV × AV) := [
  ([.agg [.int .i64 1, .sl 0 [] true], v51, .int .i64 16, .sl 0 [] true, v43], .tup [v49, .nilIface]),
  ([.agg [.int .i64 1, .sl 0 [] true], v52, .int .i64 16, .sl 0 [] true, v43], .tup [v49, .nilIface]),
  ([.agg [.int .i64 1, .sl 0 [] true], v53, .int .i64 16, .sl 0 [] true, v43], .tup [v49, .nilIface]),
  ([.agg [.int .i64 1, .sl 0 [] true], v39, .int .i64 16, .sl 0 [] true, v43], .tup [v49, .nilIface]),
  ([.agg [.int .i64 1, .sl 0 [] true], v0, .int .i64 17, .sl 0 [] true, v54], .tup [v57, .nilIface]),
  ([.agg [.int .i64 1, .sl 0 [] true], v58, .int .i64 17, .sl 0 [] true, v54], .tup [v59, .nilIface])]
def T7_5 : List (List AV × AV) := [
  ([.agg [.int .i64 1, .sl 0 [] true], v60, .int .i64 17, .sl 0 [] true, v54], .tup [v59, .nilIface]),
  ([.agg [.int .i64 1, .sl 0 [] true], v61, .int .i64 17, .sl 0 [] true, v54], .tup [v59, .nilIface]),
  ([.agg [.int .i64 1, .sl 0 [] true], v62, .int .i64 17, .sl 0 [] true, v54], .tup [v59, .nilIface]),
  ([.agg [.int .i64 1, .sl 0 [] true], v63, .int .i64 17, .sl 0 [] true, v54], .tup [v59, .nilIface]),
  ([.agg [.int .i64 1, .sl 0 [] true], v64, .int .i64 17, .sl 0 [] true, v54], .tup [v59, .nilIface]),
  ([.agg [.int .i64 1, .sl 0 [] true], v49, .int .i64 17, .sl 0 [] true, v54], .tup [v59, .nilIface])]
def T7 : List (List AV × AV) := T7_0 ++ T7_1 ++ T7_2 ++ T7_3 ++ T7_4 ++ T7_5
def T9_0 : List (List AV × AV) := [
  ([v65, v0, v2], .tup [v2, .int .i64 0]),
  ([v65, v2, v6], .tup [v13, .int .i64 0]),
  ([v65, v2, v8], .tup [v8, .int .i64 0]),
  ([v65, v13, v12], .tup [v20, .int .i64 0])]
def T9_1 : List (List AV × AV) := [
  ([v65, v8, v12], .tup [v23, .int .i64 0]),
  ([v65, v13, v15], .tup [v15, .int .i64 0]),
  ([v65, v8, v15], .tup [v15, .int .i64 0]),
  ([v65, v20, v19], .tup [v28, .int .i64 0])]
def T9_2 : List (List AV × AV) := [
  ([v65, v23, v19], .tup [v31, .int .i64 0]),
  ([v65, v15, v19], .tup [v32, .int .i64 0]),
  ([v65, v20, v22], .tup [v22, .int .i64 0]),
  ([v65, v23, v22], .tup [v22, .int .i64 0])]
def T9_3 : List (List AV × AV) := [
  ([v65, v15, v22], .tup [v22, .int .i64 0]),
  ([v65, v28, v27], .tup [v37, .int .i64 0]),
  ([v65, v31, v27], .tup [v40, .int .i64 0]),
  ([v65, v32, v27], .tup [v41, .int .i64 0])]
def T9_4 : List (List AV × AV) := [
  ([v65, v22, v27], .tup [v42, .int .i64 0]),
  ([v65, v28, v30], .tup [v30, .int .i64 0]),
  ([v65, v31, v30], .tup [v30, .int .i64 0]),
  ([v65, v32, v30], .tup [v30, .int .i64 0])]
def T9_5 : List (List AV × AV) := [
  ([v65, v22, v30], .tup [v30, .int .i64 0]),
  ([v65, v37, v36], .tup [v47, .int .i64 0]),
  ([v65, v40, v36], .tup [v50, .int .i64 0]),
  ([v65, v41, v36], .tup [v51, .int .i64 0])]
def T9_6 : List (List AV × AV) := [
  ([v65, v42, v36], .tup [v52, .int .i64 0]),
  ([v65, v30, v36], .tup [v53, .int .i64 0]),
  ([v65, v37, v39], .tup [v39, .int .i64 0]),
  ([v65, v40, v39], .tup [v39, .int .i64 0])]
def T9_7 : List (List AV × AV) := [
  ([v65, v41, v39], .tup [v39, .int .i64 0]),
  ([v65, v42, v39], .tup [v39, .int .i64 0]),
  ([v65, v30, v39], .tup [v39, .int .i64 0]),
  ([v65, v47, v46], .tup [v58, .int .i64 0])]
def T9_8 : List (List AV × AV) := [
  ([v65, v50, v46], .tup [v60, .int .i64 0]),
  ([v65, v51, v46], .tup [v61, .int .i64 0]),
  ([v65, v52, v46], .tup [v62, .int .i64 0]),
  ([v65, v53, v46], .tup [v63, .int .i64 0])]
def T9_9 : List (List AV × AV) := [
  ([v65, v39, v46], .tup [v64, .int .i64 0]),
  ([v65, v47, v49], .tup [v49, .int .i64 0]),
  ([v65, v50, v49], .tup [v49, .int .i64 0]),
  ([v65, v51, v49], .tup [v49, .int .i64 0])]
def T9_10 : List (List AV × AV) := [
  ([v65, v52, v49], .tup [v49, .int .i64 0]),
  ([v65, v53, v49], .tup [v49, .int .i64 0]),
  ([v65, v39, v49], .tup [v49, .int .i64 0]),
  ([v65, v58, v57], .tup [v66, .int .i64 0])]
def T9_11 : List (List AV × AV) := [
  ([v65, v60, v57], .tup [v67, .int .i64 0]),
  ([v65, v61, v57], .tup [v68, .int .i64 0]),
  ([v65, v62, v57], .tup [v69, .int .i64 0]),
  ([v65, v63, v57], .tup [v70, .int .i64 0])]
def T9_12 : List (List AV × AV) := [
  ([v65, v64, v57], .tup [v71, .int .i64 0]),
  ([v65, v49, v57], .tup [v72, .int .i64 0]),
  ([v65, v58, v59], .tup [v59, .int .i64 0]),
  ([v65, v60, v59], .tup [v59, .int .i64 0])]
def T9_13 : List (List AV × AV) := [
  ([v65, v61, v59], .tup [v59, .int .i64 0]),
  ([v65, v62, v59], .tup [v59, .int .i64 0]),
  ([v65, v63, v59], .tup [v59, .int .i64 0]),
  ([v65, v64, v59], .tup [v59, .int .i64 0])]
def T9_14 : List (List AV × AV) := [
  ([v65, v49, v59], .tup [v59, .int .i64 0])]
def T9 : List (List AV × AV) := T9_0 ++ T9_1 ++ T9_2 ++ T9_3 ++ T9_4 ++ T9_5 ++ T9_6 ++ T9_7 ++ T9_8 ++ T9_9 ++ T9_10 ++ T9_11 ++ T9_12 ++ T9_13 ++ T9_14
def T10_0 : List (List AV × AV) := [
  ([.agg [.int .i64 1, .sl 0 [] true], v2], .tup [v0, .nilIface]),
  ([.agg [.int .i64 1, .sl 0 [] true], v13], .tup [v3, .nilIface]),
  ([.agg [.int .i64 1, .sl 0 [] true], v8], .tup [v3, .nilIface]),
  ([.agg [.int .i64 1, .sl 0 [] true], v20], .tup [v9, .nilIface]),
  ([.agg [.int .i64 1, .sl 0 [] true], v23], .tup [v9, .nilIface]),
  ([.agg [.int .i64 1, .sl 0 [] true], v15], .tup [v9, .nilIface]),
  ([.agg [.int .i64 1, .sl 0 [] true], v28], .tup [v16, .nilIface]),
  ([.agg [.int .i64 1, .sl 0 [] true], v31], .tup [v16, .nilIface]),
  ([.agg [.int .i64 1, .sl 0 [] true], v32], .tup [v16, .nilIface])]
def T10_1 : List (List AV × AV) := [
  ([.agg [.int .i64 1, .sl 0 [] true], v22], .tup [v16, .nilIface]),
  ([.agg [.int .i64 1, .sl 0 [] true], v37], .tup [v24, .nilIface]),
  ([.agg [.int .i64 1, .sl 0 [] true], v40], .tup [v24, .nilIface]),
  ([.agg [.int .i64 1, .sl 0 [] true], v41], .tup [v24, .nilIface]),
  ([.agg [.int .i64 1, .sl 0 [] true], v42], .tup [v24, .nilIface]),
  ([.agg [.int .i64 1, .sl 0 [] true], v30], .tup [v24, .nilIface]),
  ([.agg [.int .i64 1, .sl 0 [] true], v47], .tup [v33, .nilIface]),
  ([.agg [.int .i64 1, .sl 0 [] true], v50], .tup [v33, .nilIface]),
  ([.agg [.int .i64 1, .sl 0 [] true], v51], .tup [v33, .nilIface])]
def T10_2 : List (List AV × AV) := [
  ([.agg [.int .i64 1, .sl 0 [] true], v52], .tup [v33, .nilIface]),
  ([.agg [.int .i64 1, .sl 0 [] true], v53], .tup [v33, .nilIface]),
  ([.agg [.int .i64 1, .sl 0 [] true], v39], .tup [v33, .nilIface]),
  ([.agg [.int .i64 1, .sl 0 [] true], v58], .tup [v43, .nilIface]),
  ([.agg [.int .i64 1, .sl 0 [] true], v60], .tup [v43, .nilIface]),
  ([.agg [.int .i64 1, .sl 0 [] true], v61], .tup [v43, .nilIface]),
  ([.agg [.int .i64 1, .sl 0 [] true], v62], .tup [v43, .nilIface]),
  ([.agg [.int .i64 1, .sl 0 [] true], v63], .tup [v43, .nilIface]),
  ([.agg [.int .i64 1, .sl 0 [] true], v64], .tup [v43, .nilIface])]
def T10_3 : List (List AV × AV) := [
  ([.agg [.int .i64 1, .sl 0 [] true], v49], .tup [v43, .nilIface]),
  ([.agg [.int .i64 1, .sl 0 [] true], v66], .tup [v54, .nilIface]),
  ([.agg [.int .i64 1, .sl 0 [] true], v67], .tup [v54, .nilIface]),
  ([.agg [.int .i64 1, .sl 0 [] true], v68], .tup [v54, .nilIface]),
  ([.agg [.int .i64 1, .sl 0 [] true], v69], .tup [v54, .nilIface]),
  ([.agg [.int .i64 1, .sl 0 [] true], v70], .tup [v54, .nilIface]),
  ([.agg [.int .i64 1, .sl 0 [] true], v71], .tup [v54, .nilIface]),
  ([.agg [.int .i64 1, .sl 0 [] true], v72], .tup [v54, .nilIface]),
  ([.agg [.int .i64 1, .sl 0 [] true], v59], .tup [v54, .nilIface])]
def T10 : List (List AV × AV) := T10_0 ++ T10_1 ++ T10_2 ++ T10_3
end Go.Proofs.PxG1
