import Derived.Test.YtephkjicokbckaaGreatDoorVerifyCertainLay
namespace Go.Proofs

open Go Go.Vx

def Tryz.fx11 : Fx := { n := 98, keep := [0, 1, 2, 3, 4, 5, 6, 10, 12, 14, 15, 16, 17, 18, 19, 35, 47], plans := [(7, { ex := [4], mu := [6], p := .take 0 <| .take 1 <| .take 2 <| .take 3 <| .take 5 <| .eff 4 <| .eff 6 <| .take 7 <| .take 8 <| .take 9 <| .take 10 <| .take 11 <| .done })] }

theorem Tryz.ok11 : okCode Tryz.fx11 (Tryz.f11.body.getD .skip) = true := by kernel_rfl

def Tryz.fx17 : Fx := { n := 71, keep := [0, 1, 2, 3, 4, 5, 6, 7, 8, 9], plans := [(3, { ex := [0, 2, 4], mu := [6], p := .take 1 <| .take 3 <| .take 5 <| .fork3 0 2 4 (.fork 2 4 (.eff 4 <| .eff 6 <| .take 7 <| .take 8 <| .take 9 <| .take 10 <| .take 11 <| .done) (.eff 2 <| .eff 6 <| .take 7 <| .take 8 <| .take 9 <| .take 10 <| .take 11 <| .done)) (.fork 0 4 (.eff 4 <| .eff 6 <| .take 7 <| .take 8 <| .take 9 <| .take 10 <| .take 11 <| .done) (.eff 0 <| .eff 6 <| .take 7 <| .take 8 <| .take 9 <| .take 10 <| .take 11 <| .done)) (.fork 0 2 (.eff 2 <| .eff 6 <| .take 7 <| .take 8 <| .take 9 <| .take 10 <| .take 11 <| .done) (.eff 0 <| .eff 6 <| .take 7 <| .take 8 <| .take 9 <| .take 10 <| .take 11 <| .done)) })] }

theorem Tryz.ok17 : okCode Tryz.fx17 (Tryz.f17.body.getD .skip) = true := by kernel_rfl

def Tryz.fx23 : Fx := { n := 197, keep := [0, 1, 2, 3, 4, 5, 6, 8, 9, 10, 11, 13, 15, 16, 17, 18, 19, 20, 21, 23, 24, 25, 26, 27, 28, 37, 40, 41, 42, 43, 49, 50, 51, 52, 63, 64, 65, 66, 79, 80, 81, 87, 88, 89, 90, 104, 107, 123, 124, 146, 175, 176, 177], plans := [(34, { ex := [], mu := [], p := .take 0 <| .take 1 <| .take 2 <| .take 3 <| .take 4 <| .take 5 <| .take 6 <| .take 7 <| .take 8 <| .done }), (38, { ex := [5, 12, 18, 21], mu := [], p := .take 0 <| .take 1 <| .take 2 <| .take 3 <| .take 4 <| .take 6 <| .take 7 <| .take 9 <| .take 10 <| .take 11 <| .take 13 <| .take 14 <| .fork 5 12 (.take 8 <| .eff 12 <| .take 15 <| .take 16 <| .take 17 <| .eff 18 <| .take 19 <| .take 20 <| .eff 21 <| .done) (.take 15 <| .eff 5 <| .take 8 <| .take 16 <| .take 17 <| .eff 18 <| .take 19 <| .take 20 <| .eff 21 <| .done) }), (40, { ex := [5, 13, 20, 23], mu := [], p := .take 0 <| .take 1 <| .take 2 <| .take 3 <| .take 4 <| .take 6 <| .take 7 <| .take 8 <| .take 10 <| .take 11 <| .take 12 <| .take 14 <| .take 15 <| .take 16 <| .fork 5 13 (.take 9 <| .eff 13 <| .take 17 <| .take 18 <| .take 19 <| .eff 20 <| .take 21 <| .take 22 <| .eff 23 <| .done) (.take 17 <| .eff 5 <| .take 9 <| .take 18 <| .take 19 <| .eff 20 <| .take 21 <| .take 22 <| .eff 23 <| .done) }), (46, { ex := [], mu := [9, 11], p := .take 0 <| .take 1 <| .take 2 <| .take 3 <| .take 4 <| .take 5 <| .take 6 <| .take 7 <| .take 8 <| .eff 9 <| .take 10 <| .eff 11 <| .done })] }

theorem Tryz.ok23 : okCode Tryz.fx23 (Tryz.f23.body.getD .skip) = true := by kernel_rfl

def Tryz.fx26 : Fx := { n := 44, keep := [0, 1, 2, 3, 4, 5, 8, 9, 10, 11, 12, 13, 14, 25, 31], plans := [] }

theorem Tryz.ok26 : okCode Tryz.fx26 (Tryz.f26.body.getD .skip) = true := by kernel_rfl

def Tryz.fx34 : Fx := { n := 53, keep := [0, 1, 2, 3, 4, 8, 9, 10, 11, 32, 42], plans := [] }

theorem Tryz.ok34 : okCode Tryz.fx34 (Tryz.f34.body.getD .skip) = true := by kernel_rfl

def Tryz.fx51 : Fx := { n := 56, keep := [0, 1, 2, 3, 4, 5, 6, 7, 11, 13, 14, 15, 16, 20, 27, 46, 51], plans := [] }

theorem Tryz.ok51 : okCode Tryz.fx51 (Tryz.f51.body.getD .skip) = true := by kernel_rfl

def Tryz.fx58 : Fx := { n := 19, keep := [0, 1, 2, 3, 4, 5], plans := [] }

theorem Tryz.ok58 : okCode Tryz.fx58 (Tryz.f58.body.getD .skip) = true := by kernel_rfl

def Tryz.fx75 : Fx := { n := 4, keep := [0, 1], plans := [] }

theorem Tryz.ok75 : okCode Tryz.fx75 (Tryz.f75.body.getD .skip) = true := by kernel_rfl

def Tryz.fx85 : Fx := { n := 8, keep := [0, 1, 2], plans := [] }

theorem Tryz.ok85 : okCode Tryz.fx85 (Tryz.f85.body.getD .skip) = true := by kernel_rfl

def Tryz.fx93 : Fx := { n := 38, keep := [0, 1, 4, 5, 6, 8, 13, 22, 23, 24, 25, 29], plans := [] }

theorem Tryz.ok93 : okCode Tryz.fx93 (Tryz.f93.body.getD .skip) = true := by kernel_rfl

def Tryz.fx97 : Fx := { n := 32, keep := [0, 1, 2, 3, 4, 18, 19], plans := [(2, { ex := [2, 6], mu := [8], p := .take 0 <| .take 1 <| .take 3 <| .take 4 <| .take 5 <| .fork 2 6 (.eff 6 <| .take 7 <| .eff 8 <| .take 9 <| .done) (.eff 2 <| .take 7 <| .eff 8 <| .take 9 <| .done) }), (6, { ex := [], mu := [5, 9], p := .take 0 <| .take 1 <| .take 2 <| .take 3 <| .take 4 <| .take 6 <| .take 7 <| .eff 5 <| .take 8 <| .eff 9 <| .done })] }

theorem Tryz.ok97 : okCode Tryz.fx97 (Tryz.f97.body.getD .skip) = true := by kernel_rfl

def Tryz.fx98 : Fx := { n := 85, keep := [0, 1, 2, 4, 5, 6, 7, 8, 9, 10, 12, 15, 16, 17, 18, 50, 63, 64], plans := [(6, { ex := [21], mu := [16, 22], p := .take 0 <| .take 1 <| .take 2 <| .take 3 <| .take 4 <| .take 5 <| .take 6 <| .take 7 <| .take 8 <| .take 9 <| .take 10 <| .take 11 <| .take 12 <| .take 13 <| .take 14 <| .take 15 <| .fork 16 21 (.take 17 <| .take 18 <| .take 19 <| .take 20 <| .eff 21 <| .eff 22 <| .take 23 <| .take 24 <| .done) (.eff 16 <| .take 17 <| .take 18 <| .take 19 <| .take 20 <| .eff 22 <| .take 23 <| .take 24 <| .done) }), (7, { ex := [], mu := [7], p := .take 0 <| .take 1 <| .take 2 <| .take 3 <| .take 4 <| .take 5 <| .take 6 <| .eff 7 <| .done }), (14, { ex := [3], mu := [12], p := .take 0 <| .take 1 <| .take 2 <| .take 4 <| .take 5 <| .take 8 <| .take 9 <| .eff 3 <| .take 6 <| .take 7 <| .take 10 <| .take 11 <| .eff 12 <| .done })] }

theorem Tryz.ok98 : okCode Tryz.fx98 (Tryz.f98.body.getD .skip) = true := by kernel_rfl

def Tryz.fx99 : Fx := { n := 42, keep := [0, 1, 4, 5, 22], plans := [] }

theorem Tryz.ok99 : okCode Tryz.fx99 (Tryz.f99.body.getD .skip) = true := by kernel_rfl

def Tryz.fx113 : Fx := { n := 70, keep := [0, 1, 2, 3, 4, 5, 6, 20, 28, 69], plans := [(4, { ex := [], mu := [], p := .take 0 <| .take 1 <| .take 2 <| .take 3 <| .take 4 <| .take 5 <| .take 6 <| .done })] }

theorem Tryz.ok113 : okCode Tryz.fx113 (Tryz.f113.body.getD .skip) = true := by kernel_rfl

def Tryz.fx115 : Fx := { n := 15, keep := [0, 1, 2, 6], plans := [] }

theorem Tryz.ok115 : okCode Tryz.fx115 (Tryz.f115.body.getD .skip) = true := by kernel_rfl

def Tryz.fx116 : Fx := { n := 9, keep := [0, 1, 2, 3], plans := [] }

theorem Tryz.ok116 : okCode Tryz.fx116 (Tryz.f116.body.getD .skip) = true := by kernel_rfl

def Tryz.fx118 : Fx := { n := 9, keep := [0, 1, 4], plans := [] }

theorem Tryz.ok118 : okCode Tryz.fx118 (Tryz.f118.body.getD .skip) = true := by kernel_rfl

def Tryz.fx120 : Fx := { n := 11, keep := [0, 1, 3], plans := [] }

theorem Tryz.ok120 : okCode Tryz.fx120 (Tryz.f120.body.getD .skip) = true := by kernel_rfl

def Tryz.fx127 : Fx := { n := 8, keep := [0, 1, 3], plans := [] }

theorem Tryz.ok127 : okCode Tryz.fx127 (Tryz.f127.body.getD .skip) = true := by kernel_rfl

def Tryz.fx128 : Fx := { n := 75, keep := [0, 1, 2, 3, 5, 7, 8, 9, 10, 11, 12, 14, 15, 16, 17, 23, 33, 34, 35, 40, 41, 42, 43, 51, 73], plans := [] }

theorem Tryz.ok128 : okCode Tryz.fx128 (Tryz.f128.body.getD .skip) = true := by kernel_rfl

def Tryz.fx131 : Fx := { n := 8, keep := [0, 1], plans := [] }

theorem Tryz.ok131 : okCode Tryz.fx131 (Tryz.f131.body.getD .skip) = true := by kernel_rfl

def Tryz.fx139 : Fx := { n := 20, keep := [0, 1, 2, 4, 5, 6, 13], plans := [] }

theorem Tryz.ok139 : okCode Tryz.fx139 (Tryz.f139.body.getD .skip) = true := by kernel_rfl

def Tryz.fx141 : Fx := { n := 28, keep := [0, 1, 2, 4, 5, 6, 7, 12, 16], plans := [] }

theorem Tryz.ok141 : okCode Tryz.fx141 (Tryz.f141.body.getD .skip) = true := by kernel_rfl

def Tryz.fx150 : Fx := { n := 19, keep := [0, 1, 4, 5, 7, 8, 9, 16], plans := [] }

theorem Tryz.ok150 : okCode Tryz.fx150 (Tryz.f150.body.getD .skip) = true := by kernel_rfl

def Tryz.fx158 : Fx := { n := 8, keep := [0, 2, 4], plans := [] }

theorem Tryz.ok158 : okCode Tryz.fx158 (Tryz.f158.body.getD .skip) = true := by kernel_rfl

def Tryz.fx166 : Fx := { n := 15, keep := [0, 1, 2, 6], plans := [] }

theorem Tryz.ok166 : okCode Tryz.fx166 (Tryz.f166.body.getD .skip) = true := by kernel_rfl

def Tryz.fx202 : Fx := { n := 24, keep := [0, 1, 2, 3], plans := [] }

theorem Tryz.ok202 : okCode Tryz.fx202 (Tryz.f202.body.getD .skip) = true := by kernel_rfl

def Tryz.fx203 : Fx := { n := 25, keep := [0, 1, 2, 3, 4, 5, 9, 24], plans := [] }

theorem Tryz.ok203 : okCode Tryz.fx203 (Tryz.f203.body.getD .skip) = true := by kernel_rfl

def Tryz.fx204 : Fx := { n := 12, keep := [0, 1, 2, 6], plans := [] }

theorem Tryz.ok204 : okCode Tryz.fx204 (Tryz.f204.body.getD .skip) = true := by kernel_rfl

end Go.Proofs
