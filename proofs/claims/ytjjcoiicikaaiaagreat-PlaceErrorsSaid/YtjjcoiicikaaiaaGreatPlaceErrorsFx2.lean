import Derived.Test.YtjjcoiicikaaiaaGreatPlaceErrorsLay
namespace Go.Proofs

open Go Go.Vx

def Tryz.fx7 : Fx := { n := 338, keep := [0, 1, 2, 4, 5, 6, 7, 8, 9, 10, 11, 12, 13, 14, 15, 16, 17, 18, 19, 23, 32, 94, 97, 114, 180, 195, 231, 236, 300, 316, 330], plans := [(18, { ex := [11, 12, 13], mu := [14], p := .take 0 <| .take 1 <| .take 2 <| .take 3 <| .take 4 <| .take 5 <| .take 6 <| .take 7 <| .take 8 <| .take 9 <| .take 10 <| .fork 11 12 (.eff 12 <| .eff 13 <| .eff 14 <| .done) (.eff 11 <| .eff 13 <| .eff 14 <| .done) }), (19, { ex := [], mu := [], p := .take 0 <| .take 1 <| .take 2 <| .take 3 <| .take 4 <| .take 5 <| .take 6 <| .take 7 <| .take 8 <| .take 9 <| .take 10 <| .take 11 <| .take 12 <| .done }), (25, { ex := [], mu := [11], p := .take 0 <| .take 1 <| .take 2 <| .take 3 <| .take 4 <| .take 5 <| .take 6 <| .take 7 <| .take 8 <| .take 9 <| .take 10 <| .eff 11 <| .done }), (26, { ex := [17], mu := [21], p := .take 0 <| .take 1 <| .take 2 <| .take 3 <| .take 4 <| .take 5 <| .take 6 <| .take 7 <| .take 8 <| .take 9 <| .take 10 <| .take 11 <| .take 12 <| .take 13 <| .take 14 <| .take 15 <| .take 16 <| .eff 17 <| .take 18 <| .take 19 <| .take 20 <| .eff 21 <| .done }), (33, { ex := [], mu := [], p := .take 0 <| .take 1 <| .take 2 <| .take 3 <| .take 4 <| .take 5 <| .take 6 <| .take 7 <| .take 8 <| .take 9 <| .take 10 <| .take 11 <| .take 12 <| .take 13 <| .take 14 <| .take 15 <| .take 16 <| .take 17 <| .take 18 <| .take 19 <| .take 20 <| .take 21 <| .take 22 <| .take 23 <| .take 24 <| .take 25 <| .take 26 <| .take 27 <| .take 28 <| .take 29 <| .take 30 <| .take 31 <| .take 32 <| .take 33 <| .take 34 <| .take 35 <| .take 36 <| .take 37 <| .take 38 <| .take 39 <| .take 40 <| .take 41 <| .take 42 <| .take 43 <| .take 44 <| .take 45 <| .take 46 <| .take 47 <| .take 48 <| .take 49 <| .take 50 <| .take 51 <| .take 52 <| .take 53 <| .take 54 <| .take 55 <| .take 56 <| .take 57 <| .take 58 <| .take 59 <| .take 60 <| .take 61 <| .done }), (39, { ex := [], mu := [], p := .take 0 <| .take 1 <| .take 2 <| .take 3 <| .take 4 <| .take 5 <| .take 6 <| .take 7 <| .take 8 <| .take 9 <| .take 10 <| .take 11 <| .done })] }

theorem Tryz.ok7 : okCode Tryz.fx7 (Tryz.f7.body.getD .skip) = true := by kernel_rfl

def Tryz.fx20 : Fx := { n := 199, keep := [0, 1, 2, 4, 5, 6, 7, 8, 9, 10, 12, 13, 14, 15, 16, 17, 18, 22, 27, 55, 56, 57, 58, 88, 89, 90, 103, 116, 117, 118], plans := [(7, { ex := [12, 14, 2, 7], mu := [15], p := .take 0 <| .take 1 <| .take 3 <| .take 4 <| .take 5 <| .take 6 <| .take 9 <| .take 10 <| .take 11 <| .fork3 2 12 14 (.fork3 7 12 14 (.take 8 <| .fork 12 14 (.take 13 <| .eff 14 <| .eff 15 <| .done) (.eff 12 <| .take 13 <| .eff 15 <| .done)) (.fork 7 14 (.take 8 <| .take 13 <| .eff 14 <| .eff 15 <| .done) (.eff 7 <| .take 8 <| .take 13 <| .eff 15 <| .done)) (.fork 7 12 (.take 8 <| .eff 12 <| .take 13 <| .eff 15 <| .done) (.eff 7 <| .take 8 <| .take 13 <| .eff 15 <| .done))) (.fork 2 14 (.fork 7 14 (.take 8 <| .take 13 <| .eff 14 <| .eff 15 <| .done) (.eff 7 <| .take 8 <| .take 13 <| .eff 15 <| .done)) (.eff 2 <| .eff 7 <| .take 8 <| .take 13 <| .eff 15 <| .done)) (.fork 2 12 (.fork 7 12 (.take 8 <| .eff 12 <| .take 13 <| .eff 15 <| .done) (.eff 7 <| .take 8 <| .take 13 <| .eff 15 <| .done)) (.eff 2 <| .eff 7 <| .take 8 <| .take 13 <| .eff 15 <| .done)) }), (8, { ex := [7, 3], mu := [], p := .take 0 <| .take 1 <| .take 2 <| .take 4 <| .take 5 <| .take 6 <| .fork 3 7 (.take 8 <| .eff 7 <| .take 9 <| .done) (.eff 3 <| .take 8 <| .take 9 <| .done) }), (12, { ex := [10, 18, 23, 25], mu := [], p := .take 0 <| .take 1 <| .take 2 <| .take 3 <| .take 4 <| .take 5 <| .take 6 <| .take 7 <| .take 8 <| .take 9 <| .take 11 <| .take 12 <| .take 14 <| .take 15 <| .take 16 <| .take 17 <| .take 19 <| .take 20 <| .fork 10 18 (.take 13 <| .eff 18 <| .take 21 <| .take 22 <| .eff 23 <| .take 24 <| .eff 25 <| .done) (.take 21 <| .eff 10 <| .take 13 <| .take 22 <| .eff 23 <| .take 24 <| .eff 25 <| .done) }), (18, { ex := [], mu := [10], p := .take 0 <| .take 1 <| .take 2 <| .take 3 <| .take 4 <| .take 5 <| .take 6 <| .take 7 <| .take 8 <| .take 9 <| .eff 10 <| .take 11 <| .done }), (26, { ex := [], mu := [12], p := .take 0 <| .take 1 <| .take 2 <| .take 3 <| .take 4 <| .take 5 <| .take 6 <| .take 7 <| .take 8 <| .take 9 <| .take 10 <| .take 11 <| .eff 12 <| .take 13 <| .done }), (28, { ex := [], mu := [15], p := .take 0 <| .take 1 <| .take 2 <| .take 3 <| .take 4 <| .take 5 <| .take 6 <| .take 7 <| .take 8 <| .take 9 <| .take 10 <| .take 11 <| .take 12 <| .take 13 <| .take 14 <| .eff 15 <| .take 16 <| .done }), (29, { ex := [], mu := [13], p := .take 0 <| .take 1 <| .take 2 <| .take 3 <| .take 4 <| .take 5 <| .take 6 <| .take 7 <| .take 8 <| .take 9 <| .take 10 <| .take 11 <| .take 12 <| .eff 13 <| .done }), (30, { ex := [], mu := [17], p := .take 0 <| .take 1 <| .take 2 <| .take 3 <| .take 4 <| .take 5 <| .take 6 <| .take 7 <| .take 8 <| .take 9 <| .take 10 <| .take 11 <| .take 12 <| .take 13 <| .take 14 <| .take 15 <| .take 16 <| .eff 17 <| .done })] }

theorem Tryz.ok20 : okCode Tryz.fx20 (Tryz.f20.body.getD .skip) = true := by kernel_rfl

def Tryz.fx29 : Fx := { n := 41, keep := [0, 1, 2, 6, 7], plans := [] }

theorem Tryz.ok29 : okCode Tryz.fx29 (Tryz.f29.body.getD .skip) = true := by kernel_rfl

def Tryz.fx54 : Fx := { n := 8, keep := [0, 2, 4], plans := [] }

theorem Tryz.ok54 : okCode Tryz.fx54 (Tryz.f54.body.getD .skip) = true := by kernel_rfl

def Tryz.fx55 : Fx := { n := 38, keep := [0, 1, 2, 3, 8, 9, 10], plans := [] }

theorem Tryz.ok55 : okCode Tryz.fx55 (Tryz.f55.body.getD .skip) = true := by kernel_rfl

def Tryz.fx70 : Fx := { n := 48, keep := [0, 1, 4, 5, 6, 7, 8, 10, 26, 37], plans := [(9, { ex := [], mu := [7], p := .take 0 <| .take 1 <| .take 2 <| .take 3 <| .take 4 <| .take 5 <| .take 6 <| .eff 7 <| .take 8 <| .take 9 <| .done })] }

theorem Tryz.ok70 : okCode Tryz.fx70 (Tryz.f70.body.getD .skip) = true := by kernel_rfl

def Tryz.fx71 : Fx := { n := 17, keep := [0, 1, 4, 6], plans := [] }

theorem Tryz.ok71 : okCode Tryz.fx71 (Tryz.f71.body.getD .skip) = true := by kernel_rfl

def Tryz.fx74 : Fx := { n := 62, keep := [0, 1, 2, 3, 4, 5, 6, 8, 9, 12, 13, 38, 39, 40, 41], plans := [(3, { ex := [5, 7, 9], mu := [], p := .take 0 <| .take 1 <| .take 2 <| .take 3 <| .take 4 <| .fork 5 7 (.take 6 <| .eff 7 <| .take 8 <| .eff 9 <| .done) (.take 8 <| .eff 5 <| .take 6 <| .eff 9 <| .done) }), (4, { ex := [], mu := [14], p := .take 0 <| .take 1 <| .take 2 <| .take 3 <| .take 4 <| .take 5 <| .take 6 <| .take 7 <| .take 8 <| .take 9 <| .take 10 <| .take 11 <| .take 12 <| .take 13 <| .eff 14 <| .done }), (9, { ex := [], mu := [9], p := .take 0 <| .take 1 <| .take 2 <| .take 3 <| .take 4 <| .take 5 <| .take 6 <| .take 7 <| .take 8 <| .eff 9 <| .done })] }

theorem Tryz.ok74 : okCode Tryz.fx74 (Tryz.f74.body.getD .skip) = true := by kernel_rfl

def Tryz.fx78 : Fx := { n := 106, keep := [0, 1, 2, 4, 5, 6, 7, 9, 10, 11, 12, 13, 14, 15, 19, 23, 25, 26, 27, 28, 38, 43, 54, 68, 69, 70, 73, 75, 83], plans := [(27, { ex := [12], mu := [13, 15], p := .take 0 <| .take 1 <| .take 2 <| .take 3 <| .take 4 <| .take 5 <| .take 6 <| .take 7 <| .take 8 <| .take 9 <| .take 10 <| .take 11 <| .eff 12 <| .eff 13 <| .take 14 <| .eff 15 <| .done })] }

theorem Tryz.ok78 : okCode Tryz.fx78 (Tryz.f78.body.getD .skip) = true := by kernel_rfl

def Tryz.fx79 : Fx := { n := 58, keep := [0, 1, 3, 4, 5, 6, 7, 8, 9, 10, 11, 12, 21, 24, 30, 31, 32, 33, 50], plans := [(11, { ex := [4], mu := [9], p := .take 0 <| .take 1 <| .take 2 <| .take 3 <| .eff 4 <| .take 5 <| .take 6 <| .take 7 <| .take 8 <| .eff 9 <| .done })] }

theorem Tryz.ok79 : okCode Tryz.fx79 (Tryz.f79.body.getD .skip) = true := by kernel_rfl

def Tryz.fx102 : Fx := { n := 19, keep := [0, 1, 4, 5, 7, 8, 9, 16], plans := [] }

theorem Tryz.ok102 : okCode Tryz.fx102 (Tryz.f102.body.getD .skip) = true := by kernel_rfl

def Tryz.fx117 : Fx := { n := 9, keep := [0, 1, 4], plans := [] }

theorem Tryz.ok117 : okCode Tryz.fx117 (Tryz.f117.body.getD .skip) = true := by kernel_rfl

def Tryz.fx119 : Fx := { n := 32, keep := [0, 1, 2], plans := [] }

theorem Tryz.ok119 : okCode Tryz.fx119 (Tryz.f119.body.getD .skip) = true := by kernel_rfl

def Tryz.fx133 : Fx := { n := 15, keep := [0, 2, 3, 4, 5, 8, 11], plans := [] }

theorem Tryz.ok133 : okCode Tryz.fx133 (Tryz.f133.body.getD .skip) = true := by kernel_rfl

def Tryz.fx145 : Fx := { n := 22, keep := [0, 1, 2, 3], plans := [(1, { ex := [], mu := [], p := .take 0 <| .take 1 <| .take 2 <| .take 3 <| .take 4 <| .take 5 <| .take 6 <| .take 7 <| .take 8 <| .take 9 <| .take 10 <| .take 11 <| .take 12 <| .take 13 <| .take 14 <| .take 15 <| .take 16 <| .take 17 <| .take 18 <| .done })] }

theorem Tryz.ok145 : okCode Tryz.fx145 (Tryz.f145.body.getD .skip) = true := by kernel_rfl

def Tryz.fx147 : Fx := { n := 51, keep := [0, 1, 4, 5, 6, 7, 8, 9, 10, 11, 12, 13], plans := [] }

theorem Tryz.ok147 : okCode Tryz.fx147 (Tryz.f147.body.getD .skip) = true := by kernel_rfl

def Tryz.fx151 : Fx := { n := 31, keep := [0, 1, 2, 4, 5, 7, 11, 13, 14, 15, 16, 29], plans := [] }

theorem Tryz.ok151 : okCode Tryz.fx151 (Tryz.f151.body.getD .skip) = true := by kernel_rfl

def Tryz.fx153 : Fx := { n := 8, keep := [0, 1, 2, 3, 4, 5, 6], plans := [] }

theorem Tryz.ok153 : okCode Tryz.fx153 (Tryz.f153.body.getD .skip) = true := by kernel_rfl

def Tryz.fx186 : Fx := { n := 8, keep := [0, 2], plans := [] }

theorem Tryz.ok186 : okCode Tryz.fx186 (Tryz.f186.body.getD .skip) = true := by kernel_rfl

end Go.Proofs
