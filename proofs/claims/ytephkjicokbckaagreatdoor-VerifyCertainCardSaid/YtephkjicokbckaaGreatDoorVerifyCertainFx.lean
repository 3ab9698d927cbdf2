import Derived.Test.YtephkjicokbckaaGreatDoorVerifyCertainLay
import Derived.Test.YtephkjicokbckaaGreatDoorVerifyCertainFx2
import Derived.Test.YtephkjicokbckaaGreatDoorVerifyCertainFx3
section
namespace Go.Proofs

open Go Go.Vx

def Tryz.fx15 : Fx := { n := 13, keep := [0, 1, 2], plans := [] }

theorem Tryz.ok15 : okCode Tryz.fx15 (Tryz.f15.body.getD .skip) = true := by kernel_rfl

def Tryz.fx18 : Fx := { n := 215, keep := [0, 1, 2, 3, 4, 5, 6, 8, 9, 10, 11, 12, 13, 15, 16, 17, 18, 20, 21, 23, 24, 25, 26, 28, 29, 30, 31, 32, 34, 35, 44, 69, 70, 71, 73, 74, 75, 76, 102, 109, 110, 121, 122, 123, 124, 133, 134, 135, 170, 171, 172, 202, 211], plans := [(5, { ex := [5], mu := [7], p := .take 0 <| .take 1 <| .take 2 <| .take 3 <| .take 4 <| .eff 5 <| .take 6 <| .eff 7 <| .take 8 <| .done }), (16, { ex := [], mu := [13], p := .take 0 <| .take 1 <| .take 2 <| .take 3 <| .take 4 <| .take 5 <| .take 6 <| .take 7 <| .take 8 <| .take 9 <| .take 10 <| .take 11 <| .take 12 <| .eff 13 <| .take 14 <| .done }), (20, { ex := [3], mu := [4, 5], p := .take 0 <| .take 1 <| .take 2 <| .eff 3 <| .eff 4 <| .eff 5 <| .done }), (21, { ex := [2], mu := [3, 4, 5], p := .take 0 <| .take 1 <| .eff 2 <| .eff 3 <| .eff 4 <| .eff 5 <| .done }), (28, { ex := [], mu := [6], p := .take 0 <| .take 1 <| .take 2 <| .take 3 <| .take 4 <| .take 5 <| .eff 6 <| .done }), (31, { ex := [13, 4, 17], mu := [19], p := .take 0 <| .take 1 <| .take 2 <| .take 3 <| .take 5 <| .take 6 <| .take 7 <| .take 8 <| .take 9 <| .take 10 <| .take 11 <| .take 12 <| .take 14 <| .take 15 <| .take 16 <| .fork 4 13 (.fork 13 17 (.eff 17 <| .take 18 <| .eff 19 <| .take 20 <| .done) (.eff 13 <| .take 18 <| .eff 19 <| .take 20 <| .done)) (.eff 4 <| .eff 17 <| .take 18 <| .eff 19 <| .take 20 <| .done) }), (37, { ex := [19], mu := [22], p := .take 0 <| .take 1 <| .take 2 <| .take 3 <| .take 4 <| .take 5 <| .take 6 <| .take 7 <| .take 8 <| .take 9 <| .take 10 <| .take 11 <| .take 12 <| .take 13 <| .take 14 <| .take 15 <| .take 16 <| .take 17 <| .take 18 <| .eff 19 <| .take 20 <| .take 21 <| .eff 22 <| .done })] }

theorem Tryz.ok18 : okCode Tryz.fx18 (Tryz.f18.body.getD .skip) = true := by kernel_rfl

def Tryz.fx21 : Fx := { n := 26, keep := [0, 1, 4, 5, 10, 14, 25], plans := [(6, { ex := [], mu := [], p := .take 0 <| .take 1 <| .take 2 <| .take 3 <| .take 4 <| .take 5 <| .take 6 <| .take 7 <| .take 8 <| .done })] }

theorem Tryz.ok21 : okCode Tryz.fx21 (Tryz.f21.body.getD .skip) = true := by kernel_rfl

def Tryz.fx30 : Fx := { n := 53, keep := [0, 1, 2, 3, 6, 7, 8, 9, 10, 11, 12, 14, 20, 27, 28, 29, 35, 36, 37, 38, 50], plans := [] }

theorem Tryz.ok30 : okCode Tryz.fx30 (Tryz.f30.body.getD .skip) = true := by kernel_rfl

def Tryz.fx35 : Fx := { n := 33, keep := [0, 1, 2, 6, 7, 8, 15, 23], plans := [] }

theorem Tryz.ok35 : okCode Tryz.fx35 (Tryz.f35.body.getD .skip) = true := by kernel_rfl

def Tryz.fx37 : Fx := { n := 28, keep := [0, 1, 2, 3, 4, 6, 7, 8, 9, 15], plans := [] }

theorem Tryz.ok37 : okCode Tryz.fx37 (Tryz.f37.body.getD .skip) = true := by kernel_rfl

def Tryz.fx54 : Fx := { n := 4, keep := [0, 1, 2], plans := [] }

theorem Tryz.ok54 : okCode Tryz.fx54 (Tryz.f54.body.getD .skip) = true := by kernel_rfl

def Tryz.fx55 : Fx := { n := 12, keep := [0, 1, 2, 3, 4, 8], plans := [] }

theorem Tryz.ok55 : okCode Tryz.fx55 (Tryz.f55.body.getD .skip) = true := by kernel_rfl

def Tryz.fx59 : Fx := { n := 15, keep := [0, 2, 4], plans := [(3, { ex := [4], mu := [9], p := .take 0 <| .take 1 <| .take 2 <| .take 3 <| .take 5 <| .take 6 <| .take 7 <| .take 8 <| .eff 4 <| .eff 9 <| .take 10 <| .done })] }

theorem Tryz.ok59 : okCode Tryz.fx59 (Tryz.f59.body.getD .skip) = true := by kernel_rfl

def Tryz.fx60 : Fx := { n := 8, keep := [0, 1, 2, 3, 4, 5, 6], plans := [] }

theorem Tryz.ok60 : okCode Tryz.fx60 (Tryz.f60.body.getD .skip) = true := by kernel_rfl

def Tryz.fx83 : Fx := { n := 6, keep := [0, 1, 2], plans := [] }

theorem Tryz.ok83 : okCode Tryz.fx83 (Tryz.f83.body.getD .skip) = true := by kernel_rfl

def Tryz.fx94 : Fx := { n := 17, keep := [0, 2, 3, 5, 6, 7, 8, 9], plans := [] }

theorem Tryz.ok94 : okCode Tryz.fx94 (Tryz.f94.body.getD .skip) = true := by kernel_rfl

def Tryz.fx96 : Fx := { n := 23, keep := [0, 1, 2, 3, 4, 8, 9, 13, 18], plans := [] }

theorem Tryz.ok96 : okCode Tryz.fx96 (Tryz.f96.body.getD .skip) = true := by kernel_rfl

def Tryz.fx101 : Fx := { n := 4, keep := [0, 1], plans := [] }

theorem Tryz.ok101 : okCode Tryz.fx101 (Tryz.f101.body.getD .skip) = true := by kernel_rfl

def Tryz.fx102 : Fx := { n := 6, keep := [0, 1, 2], plans := [] }

theorem Tryz.ok102 : okCode Tryz.fx102 (Tryz.f102.body.getD .skip) = true := by kernel_rfl

def Tryz.fx117 : Fx := { n := 9, keep := [0, 1, 4], plans := [] }

theorem Tryz.ok117 : okCode Tryz.fx117 (Tryz.f117.body.getD .skip) = true := by kernel_rfl

def Tryz.fx122 : Fx := { n := 13, keep := [0, 2], plans := [] }

theorem Tryz.ok122 : okCode Tryz.fx122 (Tryz.f122.body.getD .skip) = true := by kernel_rfl

def Tryz.fx126 : Fx := { n := 7, keep := [0, 1, 3], plans := [] }

theorem Tryz.ok126 : okCode Tryz.fx126 (Tryz.f126.body.getD .skip) = true := by kernel_rfl

def Tryz.fx132 : Fx := { n := 11, keep := [0, 1, 2, 6], plans := [] }

theorem Tryz.ok132 : okCode Tryz.fx132 (Tryz.f132.body.getD .skip) = true := by kernel_rfl

def Tryz.fx152 : Fx := { n := 72, keep := [0, 1, 2, 3, 6, 7, 8, 11, 12, 13, 14, 15, 19, 35], plans := [(8, { ex := [], mu := [], p := .take 0 <| .take 1 <| .take 2 <| .take 3 <| .take 4 <| .take 5 <| .take 6 <| .take 7 <| .take 8 <| .take 9 <| .take 10 <| .take 11 <| .take 12 <| .take 13 <| .take 14 <| .take 15 <| .take 16 <| .take 17 <| .take 18 <| .take 19 <| .take 20 <| .take 21 <| .take 22 <| .take 23 <| .take 24 <| .take 25 <| .take 26 <| .take 27 <| .take 28 <| .take 29 <| .take 30 <| .take 31 <| .take 32 <| .take 33 <| .take 34 <| .take 35 <| .done })] }

theorem Tryz.ok152 : okCode Tryz.fx152 (Tryz.f152.body.getD .skip) = true := by kernel_rfl

def Tryz.fx156 : Fx := { n := 30, keep := [0, 1, 2, 3, 4, 6, 7, 8, 9, 10, 11, 19], plans := [] }

theorem Tryz.ok156 : okCode Tryz.fx156 (Tryz.f156.body.getD .skip) = true := by kernel_rfl

def Tryz.fx176 : Fx := { n := 9, keep := [0, 1, 2, 4], plans := [] }

theorem Tryz.ok176 : okCode Tryz.fx176 (Tryz.f176.body.getD .skip) = true := by kernel_rfl

def Tryz.fx179 : Fx := { n := 18, keep := [0, 1, 2, 3, 4], plans := [(1, { ex := [], mu := [], p := .take 0 <| .take 1 <| .take 2 <| .take 3 <| .take 4 <| .take 5 <| .take 6 <| .take 7 <| .take 8 <| .take 9 <| .take 10 <| .take 11 <| .take 12 <| .take 13 <| .done })] }

theorem Tryz.ok179 : okCode Tryz.fx179 (Tryz.f179.body.getD .skip) = true := by kernel_rfl

def Tryz.fx182 : Fx := { n := 34, keep := [0, 1, 2, 3, 4, 5, 7, 9, 11, 12, 13, 14, 20, 22, 23, 24, 25, 32], plans := [] }

theorem Tryz.ok182 : okCode Tryz.fx182 (Tryz.f182.body.getD .skip) = true := by kernel_rfl

def Tryz.fx187 : Fx := { n := 17, keep := [0, 1, 2, 4, 6], plans := [] }

theorem Tryz.ok187 : okCode Tryz.fx187 (Tryz.f187.body.getD .skip) = true := by kernel_rfl

def Tryz.fx201 : Fx := { n := 42, keep := [0, 1, 4, 5, 6, 7, 12, 19, 29], plans := [] }

theorem Tryz.ok201 : okCode Tryz.fx201 (Tryz.f201.body.getD .skip) = true := by kernel_rfl

end Go.Proofs
end

section
end
