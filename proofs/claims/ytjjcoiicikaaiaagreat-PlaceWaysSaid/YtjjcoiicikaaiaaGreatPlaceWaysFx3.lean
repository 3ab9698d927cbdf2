import Derived.Test.YtjjcoiicikaaiaaGreatPlaceWaysLay
section
namespace Go.Proofs

open Go Go.Vx

def Tryz.fx20 : Fx := { n := 199, keep := [0, 1, 2, 4, 5, 6, 7, 8, 9, 10, 12, 13, 14, 15, 16, 17, 18, 22, 27, 55, 56, 57, 58, 88, 89, 90, 103, 116, 117, 118], plans := [(7, { ex := [12, 14, 2, 7], mu := [15], p := .take 0 <| .take 1 <| .take 3 <| .take 4 <| .take 5 <| .take 6 <| .take 9 <| .take 10 <| .take 11 <| .fork3 2 12 14 (.fork3 7 12 14 (.take 8 <| .fork 12 14 (.take 13 <| .eff 14 <| .eff 15 <| .done) (.eff 12 <| .take 13 <| .eff 15 <| .done)) (.fork 7 14 (.take 8 <| .take 13 <| .eff 14 <| .eff 15 <| .done) (.eff 7 <| .take 8 <| .take 13 <| .eff 15 <| .done)) (.fork 7 12 (.take 8 <| .eff 12 <| .take 13 <| .eff 15 <| .done) (.eff 7 <| .take 8 <| .take 13 <| .eff 15 <| .done))) (.fork 2 14 (.fork 7 14 (.take 8 <| .take 13 <| .eff 14 <| .eff 15 <| .done) (.eff 7 <| .take 8 <| .take 13 <| .eff 15 <| .done)) (.eff 2 <| .eff 7 <| .take 8 <| .take 13 <| .eff 15 <| .done)) (.fork 2 12 (.fork 7 12 (.take 8 <| .eff 12 <| .take 13 <| .eff 15 <| .done) (.eff 7 <| .take 8 <| .take 13 <| .eff 15 <| .done)) (.eff 2 <| .eff 7 <| .take 8 <| .take 13 <| .eff 15 <| .done)) }), (8, { ex := [7, 3], mu := [], p := .take 0 <| .take 1 <| .take 2 <| .take 4 <| .take 5 <| .take 6 <| .fork 3 7 (.take 8 <| .eff 7 <| .take 9 <| .done) (.eff 3 <| .take 8 <| .take 9 <| .done) }), (12, { ex := [10, 18, 23, 25], mu := [], p := .take 0 <| .take 1 <| .take 2 <| .take 3 <| .take 4 <| .take 5 <| .take 6 <| .take 7 <| .take 8 <| .take 9 <| .take 11 <| .take 12 <| .take 14 <| .take 15 <| .take 16 <| .take 17 <| .take 19 <| .take 20 <| .fork 10 18 (.take 13 <| .eff 18 <| .take 21 <| .take 22 <| .eff 23 <| .take 24 <| .eff 25 <| .done) (.take 21 <| .eff 10 <| .take 13 <| .take 22 <| .eff 23 <| .take 24 <| .eff 25 <| .done) }), (18, { ex := [], mu := [10], p := .take 0 <| .take 1 <| .take 2 <| .take 3 <| .take 4 <| .take 5 <| .take 6 <| .take 7 <| .take 8 <| .take 9 <| .eff 10 <| .take 11 <| .done }), (26, { ex := [], mu := [12], p := .take 0 <| .take 1 <| .take 2 <| .take 3 <| .take 4 <| .take 5 <| .take 6 <| .take 7 <| .take 8 <| .take 9 <| .take 10 <| .take 11 <| .eff 12 <| .take 13 <| .done }), (28, { ex := [], mu := [15], p := .take 0 <| .take 1 <| .take 2 <| .take 3 <| .take 4 <| .take 5 <| .take 6 <| .take 7 <| .take 8 <| .take 9 <| .take 10 <| .take 11 <| .take 12 <| .take 13 <| .take 14 <| .eff 15 <| .take 16 <| .done }), (29, { ex := [], mu := [13], p := .take 0 <| .take 1 <| .take 2 <| .take 3 <| .take 4 <| .take 5 <| .take 6 <| .take 7 <| .take 8 <| .take 9 <| .take 10 <| .take 11 <| .take 12 <| .eff 13 <| .done }), (30, { ex := [], mu := [17], p := .take 0 <| .take 1 <| .take 2 <| .take 3 <| .take 4 <| .take 5 <| .take 6 <| .take 7 <| .take 8 <| .take 9 <| .take 10 <| .take 11 <| .take 12 <| .take 13 <| .take 14 <| .take 15 <| .take 16 <| .eff 17 <| .done })] }

theorem Tryz.ok20 : okCode Tryz.fx20 (Tryz.f20.body.getD .skip) = true := by kernel_rfl

def Tryz.fx54 : Fx := { n := 8, keep := [0, 2, 4], plans := [] }

theorem Tryz.ok54 : okCode Tryz.fx54 (Tryz.f54.body.getD .skip) = true := by kernel_rfl

def Tryz.fx55 : Fx := { n := 38, keep := [0, 1, 2, 3, 8, 9, 10], plans := [] }

theorem Tryz.ok55 : okCode Tryz.fx55 (Tryz.f55.body.getD .skip) = true := by kernel_rfl

def Tryz.fx70 : Fx := { n := 48, keep := [0, 1, 4, 5, 6, 7, 8, 10, 26, 37], plans := [(9, { ex := [], mu := [7], p := .take 0 <| .take 1 <| .take 2 <| .take 3 <| .take 4 <| .take 5 <| .take 6 <| .eff 7 <| .take 8 <| .take 9 <| .done })] }

theorem Tryz.ok70 : okCode Tryz.fx70 (Tryz.f70.body.getD .skip) = true := by kernel_rfl

def Tryz.fx71 : Fx := { n := 17, keep := [0, 1, 4, 6], plans := [] }

theorem Tryz.ok71 : okCode Tryz.fx71 (Tryz.f71.body.getD .skip) = true := by kernel_rfl

def Tryz.fx74 : Fx := { n := 62, keep := [0, 1, 2, 3, 4, 5, 6, 8, 9, 12, 13, 38, 39, 40, 41], plans := [(3, { ex := [5, 7, 9], mu := [], p := .take 0 <| .take 1 <| .take 2 <| .take 3 <| .take 4 <| .fork 5 7 (.take 6 <| .eff 7 <| .take 8 <| .eff 9 <| .done) (.take 8 <| .eff 5 <| .take 6 <| .eff 9 <| .done) }), (4, { ex := [], mu := [14], p := .take 0 <| .take 1 <| .take 2 <| .take 3 <| .take 4 <| .take 5 <| .take 6 <| .take 7 <| .take 8 <| .take 9 <| .take 10 <| .take 11 <| .take 12 <| .take 13 <| .eff 14 <| .done }), (9, { ex := [], mu := [9], p := .take 0 <| .take 1 <| .take 2 <| .take 3 <| .take 4 <| .take 5 <| .take 6 <| .take 7 <| .take 8 <| .eff 9 <| .done })] }

theorem Tryz.ok74 : okCode Tryz.fx74 (Tryz.f74.body.getD .skip) = true := by kernel_rfl

def Tryz.fx78 : Fx := { n := 106, keep := [0, 1, 2, 4, 5, 6, 7, 9, 10, 11, 12, 13, 14, 15, 19, 23, 25, 26, 27, 28, 38, 43, 54, 68, 69, 70, 73, 75, 83], plans := [(27, { ex := [12], mu := [13, 15], p := .take 0 <| .take 1 <| .take 2 <| .take 3 <| .take 4 <| .take 5 <| .take 6 <| .take 7 <| .take 8 <| .take 9 <| .take 10 <| .take 11 <| .eff 12 <| .eff 13 <| .take 14 <| .eff 15 <| .done })] }

theorem Tryz.ok78 : okCode Tryz.fx78 (Tryz.f78.body.getD .skip) = true := by kernel_rfl

def Tryz.fx79 : Fx := { n := 58, keep := [0, 1, 3, 4, 5, 6, 7, 8, 9, 10, 11, 12, 21, 24, 30, 31, 32, 33, 50], plans := [(11, { ex := [4], mu := [9], p := .take 0 <| .take 1 <| .take 2 <| .take 3 <| .eff 4 <| .take 5 <| .take 6 <| .take 7 <| .take 8 <| .eff 9 <| .done })] }

theorem Tryz.ok79 : okCode Tryz.fx79 (Tryz.f79.body.getD .skip) = true := by kernel_rfl

def Tryz.fx97 : Fx := { n := 5, keep := [0, 2], plans := [] }

theorem Tryz.ok97 : okCode Tryz.fx97 (Tryz.f97.body.getD .skip) = true := by kernel_rfl

def Tryz.fx102 : Fx := { n := 19, keep := [0, 1, 4, 5, 7, 8, 9, 16], plans := [] }

theorem Tryz.ok102 : okCode Tryz.fx102 (Tryz.f102.body.getD .skip) = true := by kernel_rfl

def Tryz.fx117 : Fx := { n := 9, keep := [0, 1, 4], plans := [] }

theorem Tryz.ok117 : okCode Tryz.fx117 (Tryz.f117.body.getD .skip) = true := by kernel_rfl

def Tryz.fx119 : Fx := { n := 32, keep := [0, 1, 2], plans := [] }

theorem Tryz.ok119 : okCode Tryz.fx119 (Tryz.f119.body.getD .skip) = true := by kernel_rfl

def Tryz.fx133 : Fx := { n := 15, keep := [0, 2, 3, 4, 5, 8, 11], plans := [] }

theorem Tryz.ok133 : okCode Tryz.fx133 (Tryz.f133.body.getD .skip) = true := by kernel_rfl

def Tryz.fx135 : Fx := { n := 6, keep := [0, 1, 2], plans := [] }

theorem Tryz.ok135 : okCode Tryz.fx135 (Tryz.f135.body.getD .skip) = true := by kernel_rfl

def Tryz.fx145 : Fx := { n := 22, keep := [0, 1, 2, 3], plans := [(1, { ex := [], mu := [], p := .take 0 <| .take 1 <| .take 2 <| .take 3 <| .take 4 <| .take 5 <| .take 6 <| .take 7 <| .take 8 <| .take 9 <| .take 10 <| .take 11 <| .take 12 <| .take 13 <| .take 14 <| .take 15 <| .take 16 <| .take 17 <| .take 18 <| .done })] }

theorem Tryz.ok145 : okCode Tryz.fx145 (Tryz.f145.body.getD .skip) = true := by kernel_rfl

def Tryz.fx147 : Fx := { n := 51, keep := [0, 1, 4, 5, 6, 7, 8, 9, 10, 11, 12, 13], plans := [] }

theorem Tryz.ok147 : okCode Tryz.fx147 (Tryz.f147.body.getD .skip) = true := by kernel_rfl

def Tryz.fx151 : Fx := { n := 31, keep := [0, 1, 2, 4, 5, 7, 11, 13, 14, 15, 16, 29], plans := [] }

theorem Tryz.ok151 : okCode Tryz.fx151 (Tryz.f151.body.getD .skip) = true := by kernel_rfl

def Tryz.fx153 : Fx := { n := 8, keep := [0, 1, 2, 3, 4, 5, 6], plans := [] }

theorem Tryz.ok153 : okCode Tryz.fx153 (Tryz.f153.body.getD .skip) = true := by kernel_rfl

def Tryz.fx186 : Fx := { n := 8, keep := [0, 2], plans := [] }

theorem Tryz.ok186 : okCode Tryz.fx186 (Tryz.f186.body.getD .skip) = true := by kernel_rfl

end Go.Proofs
end

section
namespace Go.Proofs

open Go Go.Vx

def Tryz.fx14 : Fx := { n := 184, keep := [0, 1, 2, 3, 4, 6, 7, 8, 9, 10, 11, 12, 13, 14, 15, 16, 17, 18, 19, 20, 21, 30, 51, 54, 66, 69, 74, 83, 118, 122, 137, 142, 161, 176], plans := [(30, { ex := [], mu := [11], p := .take 0 <| .take 1 <| .take 2 <| .take 3 <| .take 4 <| .take 5 <| .take 6 <| .take 7 <| .take 8 <| .take 9 <| .take 10 <| .eff 11 <| .take 12 <| .done }), (40, { ex := [9], mu := [], p := .take 0 <| .take 1 <| .take 2 <| .take 3 <| .take 4 <| .take 5 <| .take 6 <| .take 7 <| .take 8 <| .eff 9 <| .take 10 <| .take 11 <| .take 12 <| .done })] }

theorem Tryz.ok14 : okCode Tryz.fx14 (Tryz.f14.body.getD .skip) = true := by kernel_rfl

def Tryz.fx25 : Fx := { n := 26, keep := [0, 1, 4, 5, 10, 14, 25], plans := [(6, { ex := [], mu := [], p := .take 0 <| .take 1 <| .take 2 <| .take 3 <| .take 4 <| .take 5 <| .take 6 <| .take 7 <| .take 8 <| .done })] }

theorem Tryz.ok25 : okCode Tryz.fx25 (Tryz.f25.body.getD .skip) = true := by kernel_rfl

def Tryz.fx49 : Fx := { n := 9, keep := [0, 1, 4], plans := [] }

theorem Tryz.ok49 : okCode Tryz.fx49 (Tryz.f49.body.getD .skip) = true := by kernel_rfl

def Tryz.fx56 : Fx := { n := 20, keep := [0, 1, 4, 5, 16], plans := [] }

theorem Tryz.ok56 : okCode Tryz.fx56 (Tryz.f56.body.getD .skip) = true := by kernel_rfl

def Tryz.fx68 : Fx := { n := 23, keep := [0, 1, 2, 3, 4, 6, 7, 8, 9, 17], plans := [] }

theorem Tryz.ok68 : okCode Tryz.fx68 (Tryz.f68.body.getD .skip) = true := by kernel_rfl

def Tryz.fx69 : Fx := { n := 8, keep := [0, 2, 4], plans := [] }

theorem Tryz.ok69 : okCode Tryz.fx69 (Tryz.f69.body.getD .skip) = true := by kernel_rfl

def Tryz.fx72 : Fx := { n := 6, keep := [0, 1, 2, 3, 4], plans := [] }

theorem Tryz.ok72 : okCode Tryz.fx72 (Tryz.f72.body.getD .skip) = true := by kernel_rfl

def Tryz.fx73 : Fx := { n := 14, keep := [0, 1, 2, 3, 4, 6, 7, 10], plans := [] }

theorem Tryz.ok73 : okCode Tryz.fx73 (Tryz.f73.body.getD .skip) = true := by kernel_rfl

def Tryz.fx88 : Fx := { n := 70, keep := [0, 1, 2, 3, 4, 5, 6, 20, 28, 69], plans := [(4, { ex := [], mu := [], p := .take 0 <| .take 1 <| .take 2 <| .take 3 <| .take 4 <| .take 5 <| .take 6 <| .done })] }

theorem Tryz.ok88 : okCode Tryz.fx88 (Tryz.f88.body.getD .skip) = true := by kernel_rfl

def Tryz.fx90 : Fx := { n := 15, keep := [0, 1, 2, 6], plans := [] }

theorem Tryz.ok90 : okCode Tryz.fx90 (Tryz.f90.body.getD .skip) = true := by kernel_rfl

def Tryz.fx94 : Fx := { n := 2, keep := [0], plans := [] }

theorem Tryz.ok94 : okCode Tryz.fx94 (Tryz.f94.body.getD .skip) = true := by kernel_rfl

def Tryz.fx95 : Fx := { n := 33, keep := [0, 1, 2, 4, 5, 7, 11, 20, 21, 22, 23, 24, 29, 31], plans := [] }

theorem Tryz.ok95 : okCode Tryz.fx95 (Tryz.f95.body.getD .skip) = true := by kernel_rfl

def Tryz.fx98 : Fx := { n := 8, keep := [0, 1, 2, 3, 4, 5, 6], plans := [] }

theorem Tryz.ok98 : okCode Tryz.fx98 (Tryz.f98.body.getD .skip) = true := by kernel_rfl

def Tryz.fx99 : Fx := { n := 147, keep := [0, 1, 2, 3, 8, 9, 11, 12, 14, 15, 36, 52, 53, 54, 55, 61, 99], plans := [(0, { ex := [], mu := [15], p := .take 0 <| .take 1 <| .take 2 <| .take 3 <| .take 4 <| .take 5 <| .take 6 <| .take 7 <| .take 8 <| .take 9 <| .take 10 <| .take 11 <| .take 12 <| .take 13 <| .take 14 <| .eff 15 <| .take 16 <| .take 17 <| .take 18 <| .take 19 <| .take 20 <| .done }), (9, { ex := [], mu := [], p := .take 0 <| .take 1 <| .take 2 <| .take 3 <| .take 4 <| .take 5 <| .take 6 <| .take 7 <| .take 8 <| .take 9 <| .take 10 <| .take 11 <| .take 12 <| .take 13 <| .take 14 <| .done }), (12, { ex := [], mu := [], p := .take 0 <| .take 1 <| .take 2 <| .take 3 <| .take 4 <| .take 5 <| .take 6 <| .take 7 <| .take 8 <| .take 9 <| .take 10 <| .take 11 <| .take 12 <| .take 13 <| .take 14 <| .take 15 <| .take 16 <| .done }), (13, { ex := [], mu := [11], p := .take 0 <| .take 1 <| .take 2 <| .take 3 <| .take 4 <| .take 5 <| .take 6 <| .take 7 <| .take 8 <| .take 9 <| .take 10 <| .eff 11 <| .done })] }

theorem Tryz.ok99 : okCode Tryz.fx99 (Tryz.f99.body.getD .skip) = true := by kernel_rfl

def Tryz.fx106 : Fx := { n := 45, keep := [0, 1, 2, 3, 5, 8], plans := [(1, { ex := [], mu := [6, 10, 15, 20, 24, 27, 33], p := .take 0 <| .take 1 <| .take 2 <| .take 3 <| .take 4 <| .take 5 <| .eff 6 <| .take 7 <| .take 8 <| .take 9 <| .take 11 <| .take 12 <| .take 13 <| .take 14 <| .fork 10 15 (.eff 15 <| .take 16 <| .take 17 <| .take 18 <| .take 19 <| .take 21 <| .take 22 <| .take 23 <| .take 25 <| .take 29 <| .take 30 <| .take 31 <| .take 32 <| .fork3 20 24 33 (.fork 24 33 (.take 26 <| .fork 27 33 (.take 28 <| .eff 33 <| .take 34 <| .take 35 <| .take 36 <| .done) (.eff 27 <| .take 28 <| .take 34 <| .take 35 <| .take 36 <| .done)) (.eff 24 <| .take 26 <| .eff 27 <| .take 28 <| .take 34 <| .take 35 <| .take 36 <| .done)) (.take 26 <| .fork3 20 27 33 (.fork 27 33 (.take 28 <| .eff 33 <| .take 34 <| .take 35 <| .take 36 <| .done) (.eff 27 <| .take 28 <| .take 34 <| .take 35 <| .take 36 <| .done)) (.fork 20 33 (.take 28 <| .eff 33 <| .take 34 <| .take 35 <| .take 36 <| .done) (.eff 20 <| .take 28 <| .take 34 <| .take 35 <| .take 36 <| .done)) (.fork 20 27 (.eff 27 <| .take 28 <| .take 34 <| .take 35 <| .take 36 <| .done) (.eff 20 <| .take 28 <| .take 34 <| .take 35 <| .take 36 <| .done))) (.fork 20 24 (.eff 24 <| .take 26 <| .eff 27 <| .take 28 <| .take 34 <| .take 35 <| .take 36 <| .done) (.take 26 <| .fork 20 27 (.eff 27 <| .take 28 <| .take 34 <| .take 35 <| .take 36 <| .done) (.eff 20 <| .take 28 <| .take 34 <| .take 35 <| .take 36 <| .done)))) (.eff 10 <| .take 16 <| .take 17 <| .take 18 <| .take 19 <| .take 21 <| .take 22 <| .take 23 <| .take 25 <| .take 29 <| .take 30 <| .take 31 <| .take 32 <| .fork3 20 24 33 (.fork 24 33 (.take 26 <| .fork 27 33 (.take 28 <| .eff 33 <| .take 34 <| .take 35 <| .take 36 <| .done) (.eff 27 <| .take 28 <| .take 34 <| .take 35 <| .take 36 <| .done)) (.eff 24 <| .take 26 <| .eff 27 <| .take 28 <| .take 34 <| .take 35 <| .take 36 <| .done)) (.take 26 <| .fork3 20 27 33 (.fork 27 33 (.take 28 <| .eff 33 <| .take 34 <| .take 35 <| .take 36 <| .done) (.eff 27 <| .take 28 <| .take 34 <| .take 35 <| .take 36 <| .done)) (.fork 20 33 (.take 28 <| .eff 33 <| .take 34 <| .take 35 <| .take 36 <| .done) (.eff 20 <| .take 28 <| .take 34 <| .take 35 <| .take 36 <| .done)) (.fork 20 27 (.eff 27 <| .take 28 <| .take 34 <| .take 35 <| .take 36 <| .done) (.eff 20 <| .take 28 <| .take 34 <| .take 35 <| .take 36 <| .done))) (.fork 20 24 (.eff 24 <| .take 26 <| .eff 27 <| .take 28 <| .take 34 <| .take 35 <| .take 36 <| .done) (.take 26 <| .fork 20 27 (.eff 27 <| .take 28 <| .take 34 <| .take 35 <| .take 36 <| .done) (.eff 20 <| .take 28 <| .take 34 <| .take 35 <| .take 36 <| .done)))) })] }

theorem Tryz.ok106 : okCode Tryz.fx106 (Tryz.f106.body.getD .skip) = true := by kernel_rfl

def Tryz.fx107 : Fx := { n := 46, keep := [0, 1, 2, 4, 6, 15, 16, 17, 18, 19, 22, 32, 45], plans := [] }

theorem Tryz.ok107 : okCode Tryz.fx107 (Tryz.f107.body.getD .skip) = true := by kernel_rfl

def Tryz.fx120 : Fx := { n := 9, keep := [0, 1, 4], plans := [] }

theorem Tryz.ok120 : okCode Tryz.fx120 (Tryz.f120.body.getD .skip) = true := by kernel_rfl

def Tryz.fx121 : Fx := { n := 9, keep := [0, 2], plans := [] }

theorem Tryz.ok121 : okCode Tryz.fx121 (Tryz.f121.body.getD .skip) = true := by kernel_rfl

def Tryz.fx125 : Fx := { n := 54, keep := [0, 1, 4, 5, 6, 7, 8, 9, 10, 11, 12, 13, 14, 15, 24, 37, 50], plans := [(7, { ex := [9], mu := [5, 10], p := .take 0 <| .take 1 <| .take 2 <| .take 3 <| .take 4 <| .fork 5 9 (.take 6 <| .take 7 <| .take 8 <| .eff 9 <| .eff 10 <| .take 11 <| .done) (.eff 5 <| .take 6 <| .take 7 <| .take 8 <| .eff 10 <| .take 11 <| .done) })] }

theorem Tryz.ok125 : okCode Tryz.fx125 (Tryz.f125.body.getD .skip) = true := by kernel_rfl

def Tryz.fx136 : Fx := { n := 13, keep := [0, 1, 2, 4, 5, 6, 7], plans := [] }

theorem Tryz.ok136 : okCode Tryz.fx136 (Tryz.f136.body.getD .skip) = true := by kernel_rfl

def Tryz.fx137 : Fx := { n := 72, keep := [0, 1, 2, 3, 6, 7, 8, 9, 11, 13, 14, 15, 16, 42, 49, 50, 51, 52, 70], plans := [(4, { ex := [], mu := [], p := .take 0 <| .take 1 <| .take 2 <| .take 3 <| .take 4 <| .take 5 <| .take 6 <| .take 7 <| .take 8 <| .take 9 <| .take 10 <| .done }), (5, { ex := [], mu := [5], p := .take 0 <| .take 1 <| .take 2 <| .take 3 <| .take 4 <| .eff 5 <| .done }), (8, { ex := [], mu := [], p := .take 0 <| .take 1 <| .take 2 <| .take 3 <| .take 4 <| .take 5 <| .take 6 <| .take 7 <| .done }), (11, { ex := [], mu := [13], p := .take 0 <| .take 1 <| .take 2 <| .take 3 <| .take 4 <| .take 5 <| .take 6 <| .take 7 <| .take 8 <| .take 9 <| .take 10 <| .take 11 <| .take 12 <| .yld 13 <| .take 14 <| .take 15 <| .done })] }

theorem Tryz.ok137 : okCode Tryz.fx137 (Tryz.f137.body.getD .skip) = true := by kernel_rfl

def Tryz.fx144 : Fx := { n := 9, keep := [0, 1, 4], plans := [] }

theorem Tryz.ok144 : okCode Tryz.fx144 (Tryz.f144.body.getD .skip) = true := by kernel_rfl

def Tryz.fx150 : Fx := { n := 31, keep := [0, 1, 3, 4, 5, 7, 8, 9, 10, 15, 29], plans := [] }

theorem Tryz.ok150 : okCode Tryz.fx150 (Tryz.f150.body.getD .skip) = true := by kernel_rfl

def Tryz.fx159 : Fx := { n := 19, keep := [0, 1, 4, 5, 7, 8, 9, 16], plans := [] }

theorem Tryz.ok159 : okCode Tryz.fx159 (Tryz.f159.body.getD .skip) = true := by kernel_rfl

def Tryz.fx160 : Fx := { n := 11, keep := [0, 1, 2, 3], plans := [] }

theorem Tryz.ok160 : okCode Tryz.fx160 (Tryz.f160.body.getD .skip) = true := by kernel_rfl

def Tryz.fx162 : Fx := { n := 33, keep := [0, 1, 2, 6, 7, 16], plans := [(5, { ex := [], mu := [6], p := .take 0 <| .take 1 <| .take 2 <| .take 3 <| .take 4 <| .take 5 <| .eff 6 <| .take 7 <| .done })] }

theorem Tryz.ok162 : okCode Tryz.fx162 (Tryz.f162.body.getD .skip) = true := by kernel_rfl

end Go.Proofs
end
