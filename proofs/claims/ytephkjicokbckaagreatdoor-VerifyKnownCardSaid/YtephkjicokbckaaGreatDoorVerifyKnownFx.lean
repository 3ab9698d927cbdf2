import Derived.Test.YtephkjicokbckaaGreatDoorVerifyKnownLay
import Derived.Test.YtephkjicokbckaaGreatDoorVerifyKnownFx2
section
namespace Go.Proofs

open Go Go.Vx

def Tryz.fx17 : Fx := { n := 71, keep := [0, 1, 2, 3, 4, 5, 6, 7, 8, 9], plans := [(3, { ex := [0, 2, 4], mu := [6], p := .take 1 <| .take 3 <| .take 5 <| .fork3 0 2 4 (.fork 2 4 (.eff 4 <| .eff 6 <| .take 7 <| .take 8 <| .take 9 <| .take 10 <| .take 11 <| .done) (.eff 2 <| .eff 6 <| .take 7 <| .take 8 <| .take 9 <| .take 10 <| .take 11 <| .done)) (.fork 0 4 (.eff 4 <| .eff 6 <| .take 7 <| .take 8 <| .take 9 <| .take 10 <| .take 11 <| .done) (.eff 0 <| .eff 6 <| .take 7 <| .take 8 <| .take 9 <| .take 10 <| .take 11 <| .done)) (.fork 0 2 (.eff 2 <| .eff 6 <| .take 7 <| .take 8 <| .take 9 <| .take 10 <| .take 11 <| .done) (.eff 0 <| .eff 6 <| .take 7 <| .take 8 <| .take 9 <| .take 10 <| .take 11 <| .done)) })] }

theorem Tryz.ok17 : okCode Tryz.fx17 (Tryz.f17.body.getD .skip) = true := by kernel_rfl

def Tryz.fx23 : Fx := { n := 197, keep := [0, 1, 2, 3, 4, 5, 6, 8, 9, 10, 11, 13, 15, 16, 17, 18, 19, 20, 21, 23, 24, 25, 26, 27, 28, 37, 40, 41, 42, 43, 49, 50, 51, 52, 63, 64, 65, 66, 79, 80, 81, 87, 88, 89, 90, 104, 107, 123, 124, 146, 175, 176, 177], plans := [(34, { ex := [], mu := [], p := .take 0 <| .take 1 <| .take 2 <| .take 3 <| .take 4 <| .take 5 <| .take 6 <| .take 7 <| .take 8 <| .done }), (38, { ex := [5, 12, 18, 21], mu := [], p := .take 0 <| .take 1 <| .take 2 <| .take 3 <| .take 4 <| .take 6 <| .take 7 <| .take 9 <| .take 10 <| .take 11 <| .take 13 <| .take 14 <| .fork 5 12 (.take 8 <| .eff 12 <| .take 15 <| .take 16 <| .take 17 <| .eff 18 <| .take 19 <| .take 20 <| .eff 21 <| .done) (.take 15 <| .eff 5 <| .take 8 <| .take 16 <| .take 17 <| .eff 18 <| .take 19 <| .take 20 <| .eff 21 <| .done) }), (40, { ex := [5, 13, 20, 23], mu := [], p := .take 0 <| .take 1 <| .take 2 <| .take 3 <| .take 4 <| .take 6 <| .take 7 <| .take 8 <| .take 10 <| .take 11 <| .take 12 <| .take 14 <| .take 15 <| .take 16 <| .fork 5 13 (.take 9 <| .eff 13 <| .take 17 <| .take 18 <| .take 19 <| .eff 20 <| .take 21 <| .take 22 <| .eff 23 <| .done) (.take 17 <| .eff 5 <| .take 9 <| .take 18 <| .take 19 <| .eff 20 <| .take 21 <| .take 22 <| .eff 23 <| .done) }), (46, { ex := [], mu := [9, 11], p := .take 0 <| .take 1 <| .take 2 <| .take 3 <| .take 4 <| .take 5 <| .take 6 <| .take 7 <| .take 8 <| .eff 9 <| .take 10 <| .eff 11 <| .done })] }

theorem Tryz.ok23 : okCode Tryz.fx23 (Tryz.f23.body.getD .skip) = true := by kernel_rfl

def Tryz.fx26 : Fx := { n := 44, keep := [0, 1, 2, 3, 4, 5, 8, 9, 10, 11, 12, 13, 14, 25, 31], plans := [] }

theorem Tryz.ok26 : okCode Tryz.fx26 (Tryz.f26.body.getD .skip) = true := by kernel_rfl

def Tryz.fx51 : Fx := { n := 56, keep := [0, 1, 2, 3, 4, 5, 6, 7, 11, 13, 14, 15, 16, 20, 27, 46, 51], plans := [] }

theorem Tryz.ok51 : okCode Tryz.fx51 (Tryz.f51.body.getD .skip) = true := by kernel_rfl

def Tryz.fx58 : Fx := { n := 19, keep := [0, 1, 2, 3, 4, 5], plans := [] }

theorem Tryz.ok58 : okCode Tryz.fx58 (Tryz.f58.body.getD .skip) = true := by kernel_rfl

def Tryz.fx75 : Fx := { n := 4, keep := [0, 1], plans := [] }

theorem Tryz.ok75 : okCode Tryz.fx75 (Tryz.f75.body.getD .skip) = true := by kernel_rfl

def Tryz.fx85 : Fx := { n := 8, keep := [0, 1, 2], plans := [] }

theorem Tryz.ok85 : okCode Tryz.fx85 (Tryz.f85.body.getD .skip) = true := by kernel_rfl

def Tryz.fx93 : Fx := { n := 38, keep := [0, 1, 4, 5, 6, 8, 13, 22, 23, 24, 25, 29], plans := [] }

theorem Tryz.ok93 : okCode Tryz.fx93 (Tryz.f93.body.getD .skip) = true := by kernel_rfl

def Tryz.fx97 : Fx := { n := 32, keep := [0, 1, 2, 3, 4, 18, 19], plans := [(2, { ex := [2, 6], mu := [8], p := .take 0 <| .take 1 <| .take 3 <| .take 4 <| .take 5 <| .fork 2 6 (.eff 6 <| .take 7 <| .eff 8 <| .take 9 <| .done) (.eff 2 <| .take 7 <| .eff 8 <| .take 9 <| .done) }), (6, { ex := [], mu := [5, 9], p := .take 0 <| .take 1 <| .take 2 <| .take 3 <| .take 4 <| .take 6 <| .take 7 <| .eff 5 <| .take 8 <| .eff 9 <| .done })] }

theorem Tryz.ok97 : okCode Tryz.fx97 (Tryz.f97.body.getD .skip) = true := by kernel_rfl

def Tryz.fx98 : Fx := { n := 85, keep := [0, 1, 2, 4, 5, 6, 7, 8, 9, 10, 12, 15, 16, 17, 18, 50, 63, 64], plans := [(6, { ex := [21], mu := [16, 22], p := .take 0 <| .take 1 <| .take 2 <| .take 3 <| .take 4 <| .take 5 <| .take 6 <| .take 7 <| .take 8 <| .take 9 <| .take 10 <| .take 11 <| .take 12 <| .take 13 <| .take 14 <| .take 15 <| .fork 16 21 (.take 17 <| .take 18 <| .take 19 <| .take 20 <| .eff 21 <| .eff 22 <| .take 23 <| .take 24 <| .done) (.eff 16 <| .take 17 <| .take 18 <| .take 19 <| .take 20 <| .eff 22 <| .take 23 <| .take 24 <| .done) }), (7, { ex := [], mu := [7], p := .take 0 <| .take 1 <| .take 2 <| .take 3 <| .take 4 <| .take 5 <| .take 6 <| .eff 7 <| .done }), (14, { ex := [3], mu := [12], p := .take 0 <| .take 1 <| .take 2 <| .take 4 <| .take 5 <| .take 8 <| .take 9 <| .eff 3 <| .take 6 <| .take 7 <| .take 10 <| .take 11 <| .eff 12 <| .done })] }

theorem Tryz.ok98 : okCode Tryz.fx98 (Tryz.f98.body.getD .skip) = true := by kernel_rfl

def Tryz.fx99 : Fx := { n := 42, keep := [0, 1, 4, 5, 22], plans := [] }

theorem Tryz.ok99 : okCode Tryz.fx99 (Tryz.f99.body.getD .skip) = true := by kernel_rfl

def Tryz.fx104 : Fx := { n := 6, keep := [0, 1, 2], plans := [] }

theorem Tryz.ok104 : okCode Tryz.fx104 (Tryz.f104.body.getD .skip) = true := by kernel_rfl

def Tryz.fx113 : Fx := { n := 70, keep := [0, 1, 2, 3, 4, 5, 6, 20, 28, 69], plans := [(4, { ex := [], mu := [], p := .take 0 <| .take 1 <| .take 2 <| .take 3 <| .take 4 <| .take 5 <| .take 6 <| .done })] }

theorem Tryz.ok113 : okCode Tryz.fx113 (Tryz.f113.body.getD .skip) = true := by kernel_rfl

def Tryz.fx115 : Fx := { n := 15, keep := [0, 1, 2, 6], plans := [] }

theorem Tryz.ok115 : okCode Tryz.fx115 (Tryz.f115.body.getD .skip) = true := by kernel_rfl

def Tryz.fx116 : Fx := { n := 9, keep := [0, 1, 2, 3], plans := [] }

theorem Tryz.ok116 : okCode Tryz.fx116 (Tryz.f116.body.getD .skip) = true := by kernel_rfl

def Tryz.fx118 : Fx := { n := 9, keep := [0, 1, 4], plans := [] }

theorem Tryz.ok118 : okCode Tryz.fx118 (Tryz.f118.body.getD .skip) = true := by kernel_rfl

def Tryz.fx120 : Fx := { n := 11, keep := [0, 1, 3], plans := [] }

theorem Tryz.ok120 : okCode Tryz.fx120 (Tryz.f120.body.getD .skip) = true := by kernel_rfl

def Tryz.fx127 : Fx := { n := 8, keep := [0, 1, 3], plans := [] }

theorem Tryz.ok127 : okCode Tryz.fx127 (Tryz.f127.body.getD .skip) = true := by kernel_rfl

def Tryz.fx128 : Fx := { n := 75, keep := [0, 1, 2, 3, 5, 7, 8, 9, 10, 11, 12, 14, 15, 16, 17, 23, 33, 34, 35, 40, 41, 42, 43, 51, 73], plans := [] }

theorem Tryz.ok128 : okCode Tryz.fx128 (Tryz.f128.body.getD .skip) = true := by kernel_rfl

def Tryz.fx131 : Fx := { n := 8, keep := [0, 1], plans := [] }

theorem Tryz.ok131 : okCode Tryz.fx131 (Tryz.f131.body.getD .skip) = true := by kernel_rfl

def Tryz.fx139 : Fx := { n := 20, keep := [0, 1, 2, 4, 5, 6, 13], plans := [] }

theorem Tryz.ok139 : okCode Tryz.fx139 (Tryz.f139.body.getD .skip) = true := by kernel_rfl

def Tryz.fx141 : Fx := { n := 28, keep := [0, 1, 2, 4, 5, 6, 7, 12, 16], plans := [] }

theorem Tryz.ok141 : okCode Tryz.fx141 (Tryz.f141.body.getD .skip) = true := by kernel_rfl

def Tryz.fx150 : Fx := { n := 19, keep := [0, 1, 4, 5, 7, 8, 9, 16], plans := [] }

theorem Tryz.ok150 : okCode Tryz.fx150 (Tryz.f150.body.getD .skip) = true := by kernel_rfl

def Tryz.fx158 : Fx := { n := 8, keep := [0, 2, 4], plans := [] }

theorem Tryz.ok158 : okCode Tryz.fx158 (Tryz.f158.body.getD .skip) = true := by kernel_rfl

def Tryz.fx163 : Fx := { n := 61, keep := [0, 2, 3, 4, 5, 8, 13, 25, 32, 44], plans := [(6, { ex := [], mu := [], p := .take 0 <| .take 1 <| .take 2 <| .take 3 <| .take 4 <| .take 5 <| .take 6 <| .take 7 <| .take 8 <| .take 9 <| .done }), (11, { ex := [], mu := [], p := .take 0 <| .take 1 <| .take 2 <| .take 3 <| .take 4 <| .take 5 <| .take 6 <| .take 7 <| .take 8 <| .take 9 <| .done })] }

theorem Tryz.ok163 : okCode Tryz.fx163 (Tryz.f163.body.getD .skip) = true := by kernel_rfl

def Tryz.fx166 : Fx := { n := 15, keep := [0, 1, 2, 6], plans := [] }

theorem Tryz.ok166 : okCode Tryz.fx166 (Tryz.f166.body.getD .skip) = true := by kernel_rfl

def Tryz.fx202 : Fx := { n := 24, keep := [0, 1, 2, 3], plans := [] }

theorem Tryz.ok202 : okCode Tryz.fx202 (Tryz.f202.body.getD .skip) = true := by kernel_rfl

def Tryz.fx203 : Fx := { n := 25, keep := [0, 1, 2, 3, 4, 5, 9, 24], plans := [] }

theorem Tryz.ok203 : okCode Tryz.fx203 (Tryz.f203.body.getD .skip) = true := by kernel_rfl

def Tryz.fx204 : Fx := { n := 12, keep := [0, 1, 2, 6], plans := [] }

theorem Tryz.ok204 : okCode Tryz.fx204 (Tryz.f204.body.getD .skip) = true := by kernel_rfl

end Go.Proofs
end

section
namespace Go.Proofs

open Go Go.Vx

def Tryz.fx18 : Fx := { n := 215, keep := [0, 1, 2, 3, 4, 5, 6, 8, 9, 10, 11, 12, 13, 15, 16, 17, 18, 20, 21, 23, 24, 25, 26, 28, 29, 30, 31, 32, 34, 35, 44, 69, 70, 71, 73, 74, 75, 76, 102, 109, 110, 121, 122, 123, 124, 133, 134, 135, 170, 171, 172, 202, 211], plans := [(5, { ex := [5], mu := [7], p := .take 0 <| .take 1 <| .take 2 <| .take 3 <| .take 4 <| .eff 5 <| .take 6 <| .eff 7 <| .take 8 <| .done }), (16, { ex := [], mu := [13], p := .take 0 <| .take 1 <| .take 2 <| .take 3 <| .take 4 <| .take 5 <| .take 6 <| .take 7 <| .take 8 <| .take 9 <| .take 10 <| .take 11 <| .take 12 <| .eff 13 <| .take 14 <| .done }), (20, { ex := [3], mu := [4, 5], p := .take 0 <| .take 1 <| .take 2 <| .eff 3 <| .eff 4 <| .eff 5 <| .done }), (21, { ex := [2], mu := [3, 4, 5], p := .take 0 <| .take 1 <| .eff 2 <| .eff 3 <| .eff 4 <| .eff 5 <| .done }), (28, { ex := [], mu := [6], p := .take 0 <| .take 1 <| .take 2 <| .take 3 <| .take 4 <| .take 5 <| .eff 6 <| .done }), (31, { ex := [13, 4, 17], mu := [19], p := .take 0 <| .take 1 <| .take 2 <| .take 3 <| .take 5 <| .take 6 <| .take 7 <| .take 8 <| .take 9 <| .take 10 <| .take 11 <| .take 12 <| .take 14 <| .take 15 <| .take 16 <| .fork 4 13 (.fork 13 17 (.eff 17 <| .take 18 <| .eff 19 <| .take 20 <| .done) (.eff 13 <| .take 18 <| .eff 19 <| .take 20 <| .done)) (.eff 4 <| .eff 17 <| .take 18 <| .eff 19 <| .take 20 <| .done) }), (37, { ex := [19], mu := [22], p := .take 0 <| .take 1 <| .take 2 <| .take 3 <| .take 4 <| .take 5 <| .take 6 <| .take 7 <| .take 8 <| .take 9 <| .take 10 <| .take 11 <| .take 12 <| .take 13 <| .take 14 <| .take 15 <| .take 16 <| .take 17 <| .take 18 <| .eff 19 <| .take 20 <| .take 21 <| .eff 22 <| .done })] }

theorem Tryz.ok18 : okCode Tryz.fx18 (Tryz.f18.body.getD .skip) = true := by kernel_rfl

def Tryz.fx21 : Fx := { n := 26, keep := [0, 1, 4, 5, 10, 14, 25], plans := [(6, { ex := [], mu := [], p := .take 0 <| .take 1 <| .take 2 <| .take 3 <| .take 4 <| .take 5 <| .take 6 <| .take 7 <| .take 8 <| .done })] }

theorem Tryz.ok21 : okCode Tryz.fx21 (Tryz.f21.body.getD .skip) = true := by kernel_rfl

def Tryz.fx30 : Fx := { n := 53, keep := [0, 1, 2, 3, 6, 7, 8, 9, 10, 11, 12, 14, 20, 27, 28, 29, 35, 36, 37, 38, 50], plans := [] }

theorem Tryz.ok30 : okCode Tryz.fx30 (Tryz.f30.body.getD .skip) = true := by kernel_rfl

def Tryz.fx54 : Fx := { n := 4, keep := [0, 1, 2], plans := [] }

theorem Tryz.ok54 : okCode Tryz.fx54 (Tryz.f54.body.getD .skip) = true := by kernel_rfl

def Tryz.fx55 : Fx := { n := 12, keep := [0, 1, 2, 3, 4, 8], plans := [] }

theorem Tryz.ok55 : okCode Tryz.fx55 (Tryz.f55.body.getD .skip) = true := by kernel_rfl

def Tryz.fx59 : Fx := { n := 15, keep := [0, 2, 4], plans := [(3, { ex := [4], mu := [9], p := .take 0 <| .take 1 <| .take 2 <| .take 3 <| .take 5 <| .take 6 <| .take 7 <| .take 8 <| .eff 4 <| .eff 9 <| .take 10 <| .done })] }

theorem Tryz.ok59 : okCode Tryz.fx59 (Tryz.f59.body.getD .skip) = true := by kernel_rfl

def Tryz.fx60 : Fx := { n := 8, keep := [0, 1, 2, 3, 4, 5, 6], plans := [] }

theorem Tryz.ok60 : okCode Tryz.fx60 (Tryz.f60.body.getD .skip) = true := by kernel_rfl

def Tryz.fx83 : Fx := { n := 6, keep := [0, 1, 2], plans := [] }

theorem Tryz.ok83 : okCode Tryz.fx83 (Tryz.f83.body.getD .skip) = true := by kernel_rfl

def Tryz.fx94 : Fx := { n := 17, keep := [0, 2, 3, 5, 6, 7, 8, 9], plans := [] }

theorem Tryz.ok94 : okCode Tryz.fx94 (Tryz.f94.body.getD .skip) = true := by kernel_rfl

def Tryz.fx96 : Fx := { n := 23, keep := [0, 1, 2, 3, 4, 8, 9, 13, 18], plans := [] }

theorem Tryz.ok96 : okCode Tryz.fx96 (Tryz.f96.body.getD .skip) = true := by kernel_rfl

def Tryz.fx105 : Fx := { n := 14, keep := [0, 1, 2, 3, 5], plans := [] }

theorem Tryz.ok105 : okCode Tryz.fx105 (Tryz.f105.body.getD .skip) = true := by kernel_rfl

def Tryz.fx108 : Fx := { n := 100, keep := [0, 1, 2, 3, 4, 5, 6, 7, 8, 9, 10, 11, 12, 15, 16, 17, 18, 20, 21, 22, 26, 45, 56, 57, 58, 59, 73, 80, 91, 98], plans := [(7, { ex := [], mu := [6, 7], p := .take 0 <| .take 1 <| .take 2 <| .take 3 <| .take 4 <| .take 5 <| .take 8 <| .eff 6 <| .eff 7 <| .done }), (11, { ex := [8], mu := [9, 10], p := .take 0 <| .take 1 <| .take 2 <| .take 3 <| .take 4 <| .take 5 <| .take 6 <| .take 7 <| .eff 8 <| .eff 9 <| .eff 10 <| .done })] }

theorem Tryz.ok108 : okCode Tryz.fx108 (Tryz.f108.body.getD .skip) = true := by kernel_rfl

def Tryz.fx117 : Fx := { n := 9, keep := [0, 1, 4], plans := [] }

theorem Tryz.ok117 : okCode Tryz.fx117 (Tryz.f117.body.getD .skip) = true := by kernel_rfl

def Tryz.fx122 : Fx := { n := 13, keep := [0, 2], plans := [] }

theorem Tryz.ok122 : okCode Tryz.fx122 (Tryz.f122.body.getD .skip) = true := by kernel_rfl

def Tryz.fx126 : Fx := { n := 7, keep := [0, 1, 3], plans := [] }

theorem Tryz.ok126 : okCode Tryz.fx126 (Tryz.f126.body.getD .skip) = true := by kernel_rfl

def Tryz.fx132 : Fx := { n := 11, keep := [0, 1, 2, 6], plans := [] }

theorem Tryz.ok132 : okCode Tryz.fx132 (Tryz.f132.body.getD .skip) = true := by kernel_rfl

def Tryz.fx152 : Fx := { n := 72, keep := [0, 1, 2, 3, 6, 7, 8, 11, 12, 13, 14, 15, 19, 35], plans := [(8, { ex := [], mu := [], p := .take 0 <| .take 1 <| .take 2 <| .take 3 <| .take 4 <| .take 5 <| .take 6 <| .take 7 <| .take 8 <| .take 9 <| .take 10 <| .take 11 <| .take 12 <| .take 13 <| .take 14 <| .take 15 <| .take 16 <| .take 17 <| .take 18 <| .take 19 <| .take 20 <| .take 21 <| .take 22 <| .take 23 <| .take 24 <| .take 25 <| .take 26 <| .take 27 <| .take 28 <| .take 29 <| .take 30 <| .take 31 <| .take 32 <| .take 33 <| .take 34 <| .take 35 <| .done })] }

theorem Tryz.ok152 : okCode Tryz.fx152 (Tryz.f152.body.getD .skip) = true := by kernel_rfl

def Tryz.fx156 : Fx := { n := 30, keep := [0, 1, 2, 3, 4, 6, 7, 8, 9, 10, 11, 19], plans := [] }

theorem Tryz.ok156 : okCode Tryz.fx156 (Tryz.f156.body.getD .skip) = true := by kernel_rfl

def Tryz.fx176 : Fx := { n := 9, keep := [0, 1, 2, 4], plans := [] }

theorem Tryz.ok176 : okCode Tryz.fx176 (Tryz.f176.body.getD .skip) = true := by kernel_rfl

def Tryz.fx179 : Fx := { n := 18, keep := [0, 1, 2, 3, 4], plans := [(1, { ex := [], mu := [], p := .take 0 <| .take 1 <| .take 2 <| .take 3 <| .take 4 <| .take 5 <| .take 6 <| .take 7 <| .take 8 <| .take 9 <| .take 10 <| .take 11 <| .take 12 <| .take 13 <| .done })] }

theorem Tryz.ok179 : okCode Tryz.fx179 (Tryz.f179.body.getD .skip) = true := by kernel_rfl

def Tryz.fx182 : Fx := { n := 34, keep := [0, 1, 2, 3, 4, 5, 7, 9, 11, 12, 13, 14, 20, 22, 23, 24, 25, 32], plans := [] }

theorem Tryz.ok182 : okCode Tryz.fx182 (Tryz.f182.body.getD .skip) = true := by kernel_rfl

def Tryz.fx187 : Fx := { n := 17, keep := [0, 1, 2, 4, 6], plans := [] }

theorem Tryz.ok187 : okCode Tryz.fx187 (Tryz.f187.body.getD .skip) = true := by kernel_rfl

def Tryz.fx201 : Fx := { n := 42, keep := [0, 1, 4, 5, 6, 7, 12, 19, 29], plans := [] }

theorem Tryz.ok201 : okCode Tryz.fx201 (Tryz.f201.body.getD .skip) = true := by kernel_rfl

end Go.Proofs
end

section
end
