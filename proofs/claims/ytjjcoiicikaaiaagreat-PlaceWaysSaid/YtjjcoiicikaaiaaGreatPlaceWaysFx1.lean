import Derived.Test.YtjjcoiicikaaiaaGreatPlaceWaysLay
namespace Go.Proofs

open Go Go.Vx

def Tryz.fx15 : Fx := { n := 86, keep := [0, 1, 2, 3, 4, 5, 6], plans := [] }

theorem Tryz.ok15 : okCode Tryz.fx15 (Tryz.f15.body.getD .skip) = true := by kernel_rfl

def Tryz.fx19 : Fx := { n := 37, keep := [0, 1, 2, 3, 4, 5], plans := [] }

theorem Tryz.ok19 : okCode Tryz.fx19 (Tryz.f19.body.getD .skip) = true := by kernel_rfl

def Tryz.fx26 : Fx := { n := 273, keep := [0, 1, 2, 3, 4, 6, 7, 8, 9, 10, 11, 13, 14, 15, 16, 17, 18, 19, 20, 21, 23, 24, 25, 26, 28, 37, 62, 66, 67, 68, 69, 86, 87, 88, 89, 134, 135, 161, 189, 190, 191, 192, 219, 223, 224, 225, 226, 234, 235, 236, 237, 238, 269], plans := [(4, { ex := [1, 5, 13, 3, 4], mu := [11, 14], p := .take 0 <| .take 2 <| .take 6 <| .take 7 <| .take 8 <| .take 9 <| .take 10 <| .fork3 1 5 13 (.fork3 3 5 13 (.fork3 4 5 13 (.fork 5 13 (.fork 11 13 (.take 12 <| .eff 13 <| .eff 14 <| .done) (.eff 11 <| .take 12 <| .eff 14 <| .done)) (.eff 5 <| .eff 11 <| .take 12 <| .eff 14 <| .done)) (.fork3 4 11 13 (.fork 11 13 (.take 12 <| .eff 13 <| .eff 14 <| .done) (.eff 11 <| .take 12 <| .eff 14 <| .done)) (.fork 4 13 (.take 12 <| .eff 13 <| .eff 14 <| .done) (.eff 4 <| .take 12 <| .eff 14 <| .done)) (.fork 4 11 (.eff 11 <| .take 12 <| .eff 14 <| .done) (.eff 4 <| .take 12 <| .eff 14 <| .done))) (.fork 4 5 (.eff 5 <| .eff 11 <| .take 12 <| .eff 14 <| .done) (.fork 4 11 (.eff 11 <| .take 12 <| .eff 14 <| .done) (.eff 4 <| .take 12 <| .eff 14 <| .done)))) (.fork 3 13 (.fork3 4 11 13 (.fork 11 13 (.take 12 <| .eff 13 <| .eff 14 <| .done) (.eff 11 <| .take 12 <| .eff 14 <| .done)) (.fork 4 13 (.take 12 <| .eff 13 <| .eff 14 <| .done) (.eff 4 <| .take 12 <| .eff 14 <| .done)) (.fork 4 11 (.eff 11 <| .take 12 <| .eff 14 <| .done) (.eff 4 <| .take 12 <| .eff 14 <| .done))) (.eff 3 <| .fork 4 11 (.eff 11 <| .take 12 <| .eff 14 <| .done) (.eff 4 <| .take 12 <| .eff 14 <| .done))) (.fork 3 5 (.fork 4 5 (.eff 5 <| .eff 11 <| .take 12 <| .eff 14 <| .done) (.fork 4 11 (.eff 11 <| .take 12 <| .eff 14 <| .done) (.eff 4 <| .take 12 <| .eff 14 <| .done))) (.eff 3 <| .fork 4 11 (.eff 11 <| .take 12 <| .eff 14 <| .done) (.eff 4 <| .take 12 <| .eff 14 <| .done)))) (.fork 1 13 (.fork 3 13 (.fork3 4 11 13 (.fork 11 13 (.take 12 <| .eff 13 <| .eff 14 <| .done) (.eff 11 <| .take 12 <| .eff 14 <| .done)) (.fork 4 13 (.take 12 <| .eff 13 <| .eff 14 <| .done) (.eff 4 <| .take 12 <| .eff 14 <| .done)) (.fork 4 11 (.eff 11 <| .take 12 <| .eff 14 <| .done) (.eff 4 <| .take 12 <| .eff 14 <| .done))) (.eff 3 <| .fork 4 11 (.eff 11 <| .take 12 <| .eff 14 <| .done) (.eff 4 <| .take 12 <| .eff 14 <| .done))) (.eff 1 <| .eff 3 <| .fork 4 11 (.eff 11 <| .take 12 <| .eff 14 <| .done) (.eff 4 <| .take 12 <| .eff 14 <| .done))) (.fork 1 5 (.fork 3 5 (.fork 4 5 (.eff 5 <| .eff 11 <| .take 12 <| .eff 14 <| .done) (.fork 4 11 (.eff 11 <| .take 12 <| .eff 14 <| .done) (.eff 4 <| .take 12 <| .eff 14 <| .done))) (.eff 3 <| .fork 4 11 (.eff 11 <| .take 12 <| .eff 14 <| .done) (.eff 4 <| .take 12 <| .eff 14 <| .done))) (.eff 1 <| .eff 3 <| .fork 4 11 (.eff 11 <| .take 12 <| .eff 14 <| .done) (.eff 4 <| .take 12 <| .eff 14 <| .done))) }), (19, { ex := [11, 27, 28], mu := [30], p := .take 0 <| .take 1 <| .take 2 <| .take 3 <| .take 4 <| .take 5 <| .take 6 <| .take 7 <| .take 8 <| .take 9 <| .take 10 <| .take 12 <| .take 13 <| .take 14 <| .take 15 <| .take 16 <| .take 17 <| .take 18 <| .take 19 <| .take 20 <| .take 21 <| .take 22 <| .take 23 <| .take 24 <| .take 25 <| .eff 11 <| .take 26 <| .eff 27 <| .eff 28 <| .take 29 <| .eff 30 <| .done }), (27, { ex := [3], mu := [6], p := .take 0 <| .take 1 <| .take 2 <| .eff 3 <| .take 4 <| .take 5 <| .eff 6 <| .done }), (33, { ex := [], mu := [7], p := .take 0 <| .take 1 <| .take 2 <| .take 3 <| .take 4 <| .take 5 <| .take 6 <| .eff 7 <| .done }), (39, { ex := [], mu := [14], p := .take 0 <| .take 1 <| .take 2 <| .take 3 <| .take 4 <| .take 5 <| .take 6 <| .take 7 <| .take 8 <| .take 9 <| .take 10 <| .take 11 <| .take 12 <| .take 13 <| .eff 14 <| .done }), (54, { ex := [5], mu := [10], p := .take 0 <| .take 1 <| .take 2 <| .take 3 <| .take 4 <| .eff 5 <| .take 6 <| .take 7 <| .take 8 <| .take 9 <| .eff 10 <| .take 11 <| .done }), (55, { ex := [], mu := [], p := .take 0 <| .take 1 <| .take 2 <| .take 3 <| .take 4 <| .take 5 <| .take 6 <| .take 7 <| .take 8 <| .take 9 <| .take 10 <| .take 11 <| .take 12 <| .done })] }

theorem Tryz.ok26 : okCode Tryz.fx26 (Tryz.f26.body.getD .skip) = true := by kernel_rfl

def Tryz.fx31 : Fx := { n := 36, keep := [0, 1, 2, 3, 4, 6, 7, 8, 9, 24], plans := [] }

theorem Tryz.ok31 : okCode Tryz.fx31 (Tryz.f31.body.getD .skip) = true := by kernel_rfl

def Tryz.fx41 : Fx := { n := 10, keep := [0, 1], plans := [] }

theorem Tryz.ok41 : okCode Tryz.fx41 (Tryz.f41.body.getD .skip) = true := by kernel_rfl

def Tryz.fx42 : Fx := { n := 3, keep := [0], plans := [] }

theorem Tryz.ok42 : okCode Tryz.fx42 (Tryz.f42.body.getD .skip) = true := by kernel_rfl

def Tryz.fx43 : Fx := { n := 15, keep := [0, 1, 2, 4, 9], plans := [] }

theorem Tryz.ok43 : okCode Tryz.fx43 (Tryz.f43.body.getD .skip) = true := by kernel_rfl

def Tryz.fx44 : Fx := { n := 168, keep := [0, 1, 2, 3, 4, 8, 9, 10, 11, 12, 13, 14, 15, 16, 18, 19, 21, 23, 28, 35, 43, 63, 64, 65, 66, 87, 88, 89, 92, 93, 94, 100, 101, 102, 103, 114, 115, 116, 118, 119, 120, 121, 145, 147], plans := [(14, { ex := [14, 15], mu := [16], p := .take 0 <| .take 1 <| .take 2 <| .take 3 <| .take 4 <| .take 5 <| .take 6 <| .take 7 <| .take 8 <| .take 9 <| .take 10 <| .take 11 <| .take 12 <| .take 13 <| .eff 14 <| .eff 15 <| .eff 16 <| .done }), (42, { ex := [], mu := [14], p := .take 0 <| .take 1 <| .take 2 <| .take 3 <| .take 4 <| .take 5 <| .take 6 <| .take 7 <| .take 8 <| .take 9 <| .take 10 <| .take 11 <| .take 12 <| .take 13 <| .eff 14 <| .done })] }

theorem Tryz.ok44 : okCode Tryz.fx44 (Tryz.f44.body.getD .skip) = true := by kernel_rfl

def Tryz.fx45 : Fx := { n := 104, keep := [0, 1, 2, 3, 4, 5, 6, 7, 8, 12, 13, 14, 15, 16, 17, 31, 43, 59, 68, 83, 96, 103], plans := [(6, { ex := [], mu := [7], p := .take 0 <| .take 1 <| .take 2 <| .take 3 <| .take 4 <| .take 5 <| .take 6 <| .take 8 <| .eff 7 <| .take 9 <| .done }), (7, { ex := [], mu := [12], p := .take 0 <| .take 1 <| .take 2 <| .take 3 <| .take 4 <| .take 5 <| .take 6 <| .take 7 <| .take 8 <| .take 9 <| .take 10 <| .take 11 <| .eff 12 <| .done })] }

theorem Tryz.ok45 : okCode Tryz.fx45 (Tryz.f45.body.getD .skip) = true := by kernel_rfl

def Tryz.fx46 : Fx := { n := 24, keep := [0, 1, 2, 23], plans := [] }

theorem Tryz.ok46 : okCode Tryz.fx46 (Tryz.f46.body.getD .skip) = true := by kernel_rfl

def Tryz.fx53 : Fx := { n := 8, keep := [0, 2, 4], plans := [] }

theorem Tryz.ok53 : okCode Tryz.fx53 (Tryz.f53.body.getD .skip) = true := by kernel_rfl

def Tryz.fx61 : Fx := { n := 29, keep := [0, 1, 3, 4, 5, 6, 7, 8, 9, 10, 11, 12, 13, 23], plans := [(9, { ex := [], mu := [], p := .take 0 <| .take 1 <| .take 2 <| .take 3 <| .take 4 <| .take 5 <| .done })] }

theorem Tryz.ok61 : okCode Tryz.fx61 (Tryz.f61.body.getD .skip) = true := by kernel_rfl

def Tryz.fx63 : Fx := { n := 46, keep := [0, 1, 4, 5, 6, 7, 14, 15, 16, 17], plans := [(6, { ex := [], mu := [15], p := .take 0 <| .take 1 <| .take 2 <| .take 3 <| .take 4 <| .take 5 <| .take 6 <| .take 7 <| .take 8 <| .take 9 <| .take 10 <| .take 11 <| .take 12 <| .take 13 <| .take 14 <| .eff 15 <| .done })] }

theorem Tryz.ok63 : okCode Tryz.fx63 (Tryz.f63.body.getD .skip) = true := by kernel_rfl

def Tryz.fx75 : Fx := { n := 19, keep := [0, 1, 4, 5, 7, 8, 9, 16], plans := [] }

theorem Tryz.ok75 : okCode Tryz.fx75 (Tryz.f75.body.getD .skip) = true := by kernel_rfl

def Tryz.fx76 : Fx := { n := 11, keep := [0, 1, 2, 4], plans := [] }

theorem Tryz.ok76 : okCode Tryz.fx76 (Tryz.f76.body.getD .skip) = true := by kernel_rfl

def Tryz.fx77 : Fx := { n := 19, keep := [0, 1, 2, 3, 4, 5, 6, 7, 9, 10, 18], plans := [(3, { ex := [], mu := [], p := .take 0 <| .take 1 <| .take 2 <| .take 3 <| .take 4 <| .take 5 <| .take 6 <| .take 7 <| .done })] }

theorem Tryz.ok77 : okCode Tryz.fx77 (Tryz.f77.body.getD .skip) = true := by kernel_rfl

def Tryz.fx96 : Fx := { n := 58, keep := [0, 1, 2, 4, 6, 9, 10, 11, 12, 13, 16, 25, 39, 48], plans := [] }

theorem Tryz.ok96 : okCode Tryz.fx96 (Tryz.f96.body.getD .skip) = true := by kernel_rfl

def Tryz.fx100 : Fx := { n := 2, keep := [0], plans := [] }

theorem Tryz.ok100 : okCode Tryz.fx100 (Tryz.f100.body.getD .skip) = true := by kernel_rfl

def Tryz.fx105 : Fx := { n := 26, keep := [0, 1, 2, 3, 5, 6, 7, 8, 9, 10, 24], plans := [] }

theorem Tryz.ok105 : okCode Tryz.fx105 (Tryz.f105.body.getD .skip) = true := by kernel_rfl

def Tryz.fx111 : Fx := { n := 4, keep := [0, 1, 2], plans := [] }

theorem Tryz.ok111 : okCode Tryz.fx111 (Tryz.f111.body.getD .skip) = true := by kernel_rfl

def Tryz.fx112 : Fx := { n := 48, keep := [0, 1, 2, 3, 6, 7, 8, 9, 10, 17], plans := [(4, { ex := [6, 7, 2], mu := [5, 8, 9], p := .take 0 <| .take 1 <| .take 3 <| .take 4 <| .fork3 2 6 7 (.fork3 5 6 7 (.fork 6 7 (.eff 7 <| .eff 8 <| .eff 9 <| .done) (.eff 6 <| .eff 8 <| .eff 9 <| .done)) (.fork 5 7 (.eff 7 <| .eff 8 <| .eff 9 <| .done) (.eff 5 <| .eff 8 <| .eff 9 <| .done)) (.fork 5 6 (.eff 6 <| .eff 8 <| .eff 9 <| .done) (.eff 5 <| .eff 8 <| .eff 9 <| .done))) (.fork 2 7 (.fork 5 7 (.eff 7 <| .eff 8 <| .eff 9 <| .done) (.eff 5 <| .eff 8 <| .eff 9 <| .done)) (.eff 2 <| .eff 5 <| .eff 8 <| .eff 9 <| .done)) (.fork 2 6 (.fork 5 6 (.eff 6 <| .eff 8 <| .eff 9 <| .done) (.eff 5 <| .eff 8 <| .eff 9 <| .done)) (.eff 2 <| .eff 5 <| .eff 8 <| .eff 9 <| .done)) })] }

theorem Tryz.ok112 : okCode Tryz.fx112 (Tryz.f112.body.getD .skip) = true := by kernel_rfl

def Tryz.fx113 : Fx := { n := 54, keep := [0, 1, 2, 3, 6, 7, 8, 9, 11, 12, 20, 24, 31, 32, 33, 34, 40, 41], plans := [(1, { ex := [2, 4], mu := [5], p := .take 0 <| .take 1 <| .take 3 <| .eff 2 <| .eff 4 <| .eff 5 <| .take 6 <| .done }), (12, { ex := [7], mu := [10], p := .take 0 <| .take 1 <| .take 2 <| .take 3 <| .take 4 <| .take 5 <| .take 6 <| .eff 7 <| .take 8 <| .take 9 <| .eff 10 <| .done })] }

theorem Tryz.ok113 : okCode Tryz.fx113 (Tryz.f113.body.getD .skip) = true := by kernel_rfl

def Tryz.fx122 : Fx := { n := 17, keep := [0, 1, 3, 4, 5, 6, 11], plans := [] }

theorem Tryz.ok122 : okCode Tryz.fx122 (Tryz.f122.body.getD .skip) = true := by kernel_rfl

def Tryz.fx123 : Fx := { n := 29, keep := [0, 1, 2, 4, 5, 6, 7, 9, 10, 11, 12, 27], plans := [] }

theorem Tryz.ok123 : okCode Tryz.fx123 (Tryz.f123.body.getD .skip) = true := by kernel_rfl

def Tryz.fx124 : Fx := { n := 8, keep := [0, 2, 4], plans := [] }

theorem Tryz.ok124 : okCode Tryz.fx124 (Tryz.f124.body.getD .skip) = true := by kernel_rfl

def Tryz.fx134 : Fx := { n := 15, keep := [0, 1, 2, 6], plans := [] }

theorem Tryz.ok134 : okCode Tryz.fx134 (Tryz.f134.body.getD .skip) = true := by kernel_rfl

def Tryz.fx138 : Fx := { n := 25, keep := [0, 1, 3, 4, 11], plans := [(1, { ex := [], mu := [], p := .take 0 <| .take 1 <| .take 2 <| .take 3 <| .take 4 <| .take 5 <| .take 6 <| .done }), (2, { ex := [6], mu := [7], p := .take 0 <| .take 1 <| .take 2 <| .take 3 <| .take 4 <| .take 5 <| .eff 6 <| .eff 7 <| .done }), (3, { ex := [], mu := [], p := .take 0 <| .take 1 <| .take 2 <| .take 3 <| .take 4 <| .take 5 <| .take 6 <| .done })] }

theorem Tryz.ok138 : okCode Tryz.fx138 (Tryz.f138.body.getD .skip) = true := by kernel_rfl

def Tryz.fx141 : Fx := { n := 19, keep := [0, 2, 3], plans := [] }

theorem Tryz.ok141 : okCode Tryz.fx141 (Tryz.f141.body.getD .skip) = true := by kernel_rfl

def Tryz.fx161 : Fx := { n := 42, keep := [0, 1, 2, 3, 4, 5, 6, 29], plans := [] }

theorem Tryz.ok161 : okCode Tryz.fx161 (Tryz.f161.body.getD .skip) = true := by kernel_rfl

def Tryz.fx175 : Fx := { n := 23, keep := [0, 1, 2, 3, 12], plans := [(1, { ex := [5], mu := [6, 10], p := .take 0 <| .take 1 <| .take 2 <| .take 3 <| .take 4 <| .eff 5 <| .eff 6 <| .take 7 <| .take 8 <| .take 9 <| .eff 10 <| .done })] }

theorem Tryz.ok175 : okCode Tryz.fx175 (Tryz.f175.body.getD .skip) = true := by kernel_rfl

end Go.Proofs
