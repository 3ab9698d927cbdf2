import Derived.Test.YtjjcoiicikaaiaaGreatPlaceErrorsLay
namespace Go.Proofs

open Go Go.Vx

def Tryz.fx25 : Fx := { n := 26, keep := [0, 1, 4, 5, 10, 14, 25], plans := [(6, { ex := [], mu := [], p := .take 0 <| .take 1 <| .take 2 <| .take 3 <| .take 4 <| .take 5 <| .take 6 <| .take 7 <| .take 8 <| .done })] }

theorem Tryz.ok25 : okCode Tryz.fx25 (Tryz.f25.body.getD .skip) = true := by kernel_rfl

def Tryz.fx49 : Fx := { n := 9, keep := [0, 1, 4], plans := [] }

theorem Tryz.ok49 : okCode Tryz.fx49 (Tryz.f49.body.getD .skip) = true := by kernel_rfl

def Tryz.fx56 : Fx := { n := 20, keep := [0, 1, 4, 5, 16], plans := [] }

theorem Tryz.ok56 : okCode Tryz.fx56 (Tryz.f56.body.getD .skip) = true := by kernel_rfl

def Tryz.fx68 : Fx := { n := 23, keep := [0, 1, 2, 3, 4, 6, 7, 8, 9, 17], plans := [] }

theorem Tryz.ok68 : okCode Tryz.fx68 (Tryz.f68.body.getD .skip) = true := by kernel_rfl

def Tryz.fx69 : Fx := { n := 8, keep := [0, 2, 4], plans := [] }

theorem Tryz.ok69 : okCode Tryz.fx69 (Tryz.f69.body.getD .skip) = true := by kernel_rfl

def Tryz.fx72 : Fx := { n := 6, keep := [0, 1, 2, 3, 4], plans := [] }

theorem Tryz.ok72 : okCode Tryz.fx72 (Tryz.f72.body.getD .skip) = true := by kernel_rfl

def Tryz.fx73 : Fx := { n := 14, keep := [0, 1, 2, 3, 4, 6, 7, 10], plans := [] }

theorem Tryz.ok73 : okCode Tryz.fx73 (Tryz.f73.body.getD .skip) = true := by kernel_rfl

def Tryz.fx88 : Fx := { n := 70, keep := [0, 1, 2, 3, 4, 5, 6, 20, 28, 69], plans := [(4, { ex := [], mu := [], p := .take 0 <| .take 1 <| .take 2 <| .take 3 <| .take 4 <| .take 5 <| .take 6 <| .done })] }

theorem Tryz.ok88 : okCode Tryz.fx88 (Tryz.f88.body.getD .skip) = true := by kernel_rfl

def Tryz.fx90 : Fx := { n := 15, keep := [0, 1, 2, 6], plans := [] }

theorem Tryz.ok90 : okCode Tryz.fx90 (Tryz.f90.body.getD .skip) = true := by kernel_rfl

def Tryz.fx94 : Fx := { n := 2, keep := [0], plans := [] }

theorem Tryz.ok94 : okCode Tryz.fx94 (Tryz.f94.body.getD .skip) = true := by kernel_rfl

def Tryz.fx106 : Fx := { n := 45, keep := [0, 1, 2, 3, 5, 8], plans := [(1, { ex := [], mu := [6, 10, 15, 20, 24, 27, 33], p := .take 0 <| .take 1 <| .take 2 <| .take 3 <| .take 4 <| .take 5 <| .eff 6 <| .take 7 <| .take 8 <| .take 9 <| .take 11 <| .take 12 <| .take 13 <| .take 14 <| .fork 10 15 (.eff 15 <| .take 16 <| .take 17 <| .take 18 <| .take 19 <| .take 21 <| .take 22 <| .take 23 <| .take 25 <| .take 29 <| .take 30 <| .take 31 <| .take 32 <| .fork3 20 24 33 (.fork 24 33 (.take 26 <| .fork 27 33 (.take 28 <| .eff 33 <| .take 34 <| .take 35 <| .take 36 <| .done) (.eff 27 <| .take 28 <| .take 34 <| .take 35 <| .take 36 <| .done)) (.eff 24 <| .take 26 <| .eff 27 <| .take 28 <| .take 34 <| .take 35 <| .take 36 <| .done)) (.take 26 <| .fork3 20 27 33 (.fork 27 33 (.take 28 <| .eff 33 <| .take 34 <| .take 35 <| .take 36 <| .done) (.eff 27 <| .take 28 <| .take 34 <| .take 35 <| .take 36 <| .done)) (.fork 20 33 (.take 28 <| .eff 33 <| .take 34 <| .take 35 <| .take 36 <| .done) (.eff 20 <| .take 28 <| .take 34 <| .take 35 <| .take 36 <| .done)) (.fork 20 27 (.eff 27 <| .take 28 <| .take 34 <| .take 35 <| .take 36 <| .done) (.eff 20 <| .take 28 <| .take 34 <| .take 35 <| .take 36 <| .done))) (.fork 20 24 (.eff 24 <| .take 26 <| .eff 27 <| .take 28 <| .take 34 <| .take 35 <| .take 36 <| .done) (.take 26 <| .fork 20 27 (.eff 27 <| .take 28 <| .take 34 <| .take 35 <| .take 36 <| .done) (.eff 20 <| .take 28 <| .take 34 <| .take 35 <| .take 36 <| .done)))) (.eff 10 <| .take 16 <| .take 17 <| .take 18 <| .take 19 <| .take 21 <| .take 22 <| .take 23 <| .take 25 <| .take 29 <| .take 30 <| .take 31 <| .take 32 <| .fork3 20 24 33 (.fork 24 33 (.take 26 <| .fork 27 33 (.take 28 <| .eff 33 <| .take 34 <| .take 35 <| .take 36 <| .done) (.eff 27 <| .take 28 <| .take 34 <| .take 35 <| .take 36 <| .done)) (.eff 24 <| .take 26 <| .eff 27 <| .take 28 <| .take 34 <| .take 35 <| .take 36 <| .done)) (.take 26 <| .fork3 20 27 33 (.fork 27 33 (.take 28 <| .eff 33 <| .take 34 <| .take 35 <| .take 36 <| .done) (.eff 27 <| .take 28 <| .take 34 <| .take 35 <| .take 36 <| .done)) (.fork 20 33 (.take 28 <| .eff 33 <| .take 34 <| .take 35 <| .take 36 <| .done) (.eff 20 <| .take 28 <| .take 34 <| .take 35 <| .take 36 <| .done)) (.fork 20 27 (.eff 27 <| .take 28 <| .take 34 <| .take 35 <| .take 36 <| .done) (.eff 20 <| .take 28 <| .take 34 <| .take 35 <| .take 36 <| .done))) (.fork 20 24 (.eff 24 <| .take 26 <| .eff 27 <| .take 28 <| .take 34 <| .take 35 <| .take 36 <| .done) (.take 26 <| .fork 20 27 (.eff 27 <| .take 28 <| .take 34 <| .take 35 <| .take 36 <| .done) (.eff 20 <| .take 28 <| .take 34 <| .take 35 <| .take 36 <| .done)))) })] }

theorem Tryz.ok106 : okCode Tryz.fx106 (Tryz.f106.body.getD .skip) = true := by kernel_rfl

def Tryz.fx107 : Fx := { n := 46, keep := [0, 1, 2, 4, 6, 15, 16, 17, 18, 19, 22, 32, 45], plans := [] }

theorem Tryz.ok107 : okCode Tryz.fx107 (Tryz.f107.body.getD .skip) = true := by kernel_rfl

def Tryz.fx120 : Fx := { n := 9, keep := [0, 1, 4], plans := [] }

theorem Tryz.ok120 : okCode Tryz.fx120 (Tryz.f120.body.getD .skip) = true := by kernel_rfl

def Tryz.fx121 : Fx := { n := 9, keep := [0, 2], plans := [] }

theorem Tryz.ok121 : okCode Tryz.fx121 (Tryz.f121.body.getD .skip) = true := by kernel_rfl

def Tryz.fx125 : Fx := { n := 54, keep := [0, 1, 4, 5, 6, 7, 8, 9, 10, 11, 12, 13, 14, 15, 24, 37, 50], plans := [(7, { ex := [9], mu := [5, 10], p := .take 0 <| .take 1 <| .take 2 <| .take 3 <| .take 4 <| .fork 5 9 (.take 6 <| .take 7 <| .take 8 <| .eff 9 <| .eff 10 <| .take 11 <| .done) (.eff 5 <| .take 6 <| .take 7 <| .take 8 <| .eff 10 <| .take 11 <| .done) })] }

theorem Tryz.ok125 : okCode Tryz.fx125 (Tryz.f125.body.getD .skip) = true := by kernel_rfl

def Tryz.fx144 : Fx := { n := 9, keep := [0, 1, 4], plans := [] }

theorem Tryz.ok144 : okCode Tryz.fx144 (Tryz.f144.body.getD .skip) = true := by kernel_rfl

def Tryz.fx150 : Fx := { n := 31, keep := [0, 1, 3, 4, 5, 7, 8, 9, 10, 15, 29], plans := [] }

theorem Tryz.ok150 : okCode Tryz.fx150 (Tryz.f150.body.getD .skip) = true := by kernel_rfl

def Tryz.fx159 : Fx := { n := 19, keep := [0, 1, 4, 5, 7, 8, 9, 16], plans := [] }

theorem Tryz.ok159 : okCode Tryz.fx159 (Tryz.f159.body.getD .skip) = true := by kernel_rfl

def Tryz.fx160 : Fx := { n := 11, keep := [0, 1, 2, 3], plans := [] }

theorem Tryz.ok160 : okCode Tryz.fx160 (Tryz.f160.body.getD .skip) = true := by kernel_rfl

def Tryz.fx162 : Fx := { n := 33, keep := [0, 1, 2, 6, 7, 16], plans := [(5, { ex := [], mu := [6], p := .take 0 <| .take 1 <| .take 2 <| .take 3 <| .take 4 <| .take 5 <| .eff 6 <| .take 7 <| .done })] }

theorem Tryz.ok162 : okCode Tryz.fx162 (Tryz.f162.body.getD .skip) = true := by kernel_rfl

end Go.Proofs
