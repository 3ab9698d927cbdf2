import Derived.Test.YtephkjicokbckaaGreatDoorVerifyClaimsLay
namespace Go.Proofs

open Go Go.Vx

def Tryz.fx28 : Fx := { n := 85, keep := [0, 1, 2, 6, 7, 8, 10, 11, 12, 13, 14, 15, 19, 28, 32, 33, 34, 35, 50, 51, 52, 53, 68, 81], plans := [] }

theorem Tryz.ok28 : okCode Tryz.fx28 (Tryz.f28.body.getD .skip) = true := by kernel_rfl

def Tryz.fx38 : Fx := { n := 18, keep := [0, 1, 2, 3, 4, 6, 7, 8, 13], plans := [] }

theorem Tryz.ok38 : okCode Tryz.fx38 (Tryz.f38.body.getD .skip) = true := by kernel_rfl

def Tryz.fx39 : Fx := { n := 9, keep := [0, 1, 2, 3, 4], plans := [] }

theorem Tryz.ok39 : okCode Tryz.fx39 (Tryz.f39.body.getD .skip) = true := by kernel_rfl

def Tryz.fx50 : Fx := { n := 6, keep := [0, 1, 2], plans := [] }

theorem Tryz.ok50 : okCode Tryz.fx50 (Tryz.f50.body.getD .skip) = true := by kernel_rfl

def Tryz.fx57 : Fx := { n := 29, keep := [0, 1, 4, 5, 6, 7, 11, 24], plans := [] }

theorem Tryz.ok57 : okCode Tryz.fx57 (Tryz.f57.body.getD .skip) = true := by kernel_rfl

def Tryz.fx62 : Fx := { n := 71, keep := [0, 2, 3, 5, 6, 8, 10, 12, 23, 24, 25, 26, 40, 41, 42, 43, 53, 54, 55, 56], plans := [] }

theorem Tryz.ok62 : okCode Tryz.fx62 (Tryz.f62.body.getD .skip) = true := by kernel_rfl

def Tryz.fx63 : Fx := { n := 95, keep := [0, 1, 2, 3, 4, 5, 6, 10, 25, 28, 33, 43, 49, 94], plans := [] }

theorem Tryz.ok63 : okCode Tryz.fx63 (Tryz.f63.body.getD .skip) = true := by kernel_rfl

def Tryz.fx76 : Fx := { n := 6, keep := [0, 1, 2], plans := [] }

theorem Tryz.ok76 : okCode Tryz.fx76 (Tryz.f76.body.getD .skip) = true := by kernel_rfl

def Tryz.fx87 : Fx := { n := 17, keep := [0, 2, 3, 4, 5], plans := [] }

theorem Tryz.ok87 : okCode Tryz.fx87 (Tryz.f87.body.getD .skip) = true := by kernel_rfl

def Tryz.fx90 : Fx := { n := 15, keep := [0, 1, 2, 6], plans := [] }

theorem Tryz.ok90 : okCode Tryz.fx90 (Tryz.f90.body.getD .skip) = true := by kernel_rfl

def Tryz.fx91 : Fx := { n := 9, keep := [0, 1, 4], plans := [] }

theorem Tryz.ok91 : okCode Tryz.fx91 (Tryz.f91.body.getD .skip) = true := by kernel_rfl

def Tryz.fx112 : Fx := { n := 2, keep := [0], plans := [] }

theorem Tryz.ok112 : okCode Tryz.fx112 (Tryz.f112.body.getD .skip) = true := by kernel_rfl

def Tryz.fx119 : Fx := { n := 36, keep := [0, 2, 3, 5, 6, 8, 9, 10, 11, 12, 20, 25, 26, 27, 28], plans := [] }

theorem Tryz.ok119 : okCode Tryz.fx119 (Tryz.f119.body.getD .skip) = true := by kernel_rfl

def Tryz.fx123 : Fx := { n := 8, keep := [0, 2, 4], plans := [] }

theorem Tryz.ok123 : okCode Tryz.fx123 (Tryz.f123.body.getD .skip) = true := by kernel_rfl

def Tryz.fx125 : Fx := { n := 34, keep := [0, 1, 2, 4, 5, 6, 7, 8, 9, 10, 14, 21], plans := [] }

theorem Tryz.ok125 : okCode Tryz.fx125 (Tryz.f125.body.getD .skip) = true := by kernel_rfl

def Tryz.fx130 : Fx := { n := 34, keep := [0, 2, 3, 4, 5, 8, 20, 21], plans := [(3, { ex := [8, 10], mu := [11], p := .take 0 <| .take 1 <| .take 2 <| .take 3 <| .take 4 <| .take 5 <| .take 6 <| .take 7 <| .fork 8 10 (.take 9 <| .eff 10 <| .eff 11 <| .done) (.eff 8 <| .take 9 <| .eff 11 <| .done) }), (7, { ex := [4, 5, 6], mu := [7, 9], p := .take 0 <| .take 1 <| .take 2 <| .take 3 <| .eff 4 <| .eff 5 <| .eff 6 <| .eff 7 <| .take 8 <| .eff 9 <| .done })] }

theorem Tryz.ok130 : okCode Tryz.fx130 (Tryz.f130.body.getD .skip) = true := by kernel_rfl

def Tryz.fx133 : Fx := { n := 8, keep := [0, 1, 4], plans := [] }

theorem Tryz.ok133 : okCode Tryz.fx133 (Tryz.f133.body.getD .skip) = true := by kernel_rfl

def Tryz.fx135 : Fx := { n := 17, keep := [0, 1, 2, 4], plans := [] }

theorem Tryz.ok135 : okCode Tryz.fx135 (Tryz.f135.body.getD .skip) = true := by kernel_rfl

def Tryz.fx146 : Fx := { n := 20, keep := [0, 1, 2, 4, 5, 6, 12], plans := [] }

theorem Tryz.ok146 : okCode Tryz.fx146 (Tryz.f146.body.getD .skip) = true := by kernel_rfl

def Tryz.fx147 : Fx := { n := 79, keep := [0, 1, 2, 4, 5, 6, 7, 8, 10, 12, 25, 26, 27, 28, 31, 32, 33, 34, 44, 54, 63, 78], plans := [(1, { ex := [], mu := [], p := .take 0 <| .take 1 <| .take 2 <| .take 3 <| .take 4 <| .take 5 <| .take 6 <| .take 7 <| .take 8 <| .done })] }

theorem Tryz.ok147 : okCode Tryz.fx147 (Tryz.f147.body.getD .skip) = true := by kernel_rfl

def Tryz.fx148 : Fx := { n := 14, keep := [0, 1, 2, 4], plans := [(1, { ex := [2], mu := [8], p := .take 0 <| .take 1 <| .take 4 <| .take 5 <| .take 6 <| .take 7 <| .eff 2 <| .take 3 <| .eff 8 <| .take 9 <| .done })] }

theorem Tryz.ok148 : okCode Tryz.fx148 (Tryz.f148.body.getD .skip) = true := by kernel_rfl

def Tryz.fx155 : Fx := { n := 17, keep := [0, 1, 4], plans := [(1, { ex := [], mu := [], p := .take 0 <| .take 1 <| .take 2 <| .take 3 <| .take 4 <| .take 5 <| .take 6 <| .take 7 <| .take 8 <| .take 9 <| .take 10 <| .take 11 <| .take 12 <| .done })] }

theorem Tryz.ok155 : okCode Tryz.fx155 (Tryz.f155.body.getD .skip) = true := by kernel_rfl

def Tryz.fx157 : Fx := { n := 8, keep := [0, 1, 2, 3, 4, 5, 6], plans := [] }

theorem Tryz.ok157 : okCode Tryz.fx157 (Tryz.f157.body.getD .skip) = true := by kernel_rfl

def Tryz.fx167 : Fx := { n := 19, keep := [0, 1, 4, 5, 7, 8, 9, 16], plans := [] }

theorem Tryz.ok167 : okCode Tryz.fx167 (Tryz.f167.body.getD .skip) = true := by kernel_rfl

def Tryz.fx178 : Fx := { n := 10, keep := [0, 1, 2, 3, 4], plans := [] }

theorem Tryz.ok178 : okCode Tryz.fx178 (Tryz.f178.body.getD .skip) = true := by kernel_rfl

def Tryz.fx180 : Fx := { n := 27, keep := [0, 1, 2, 3, 4, 5, 6, 7, 13], plans := [] }

theorem Tryz.ok180 : okCode Tryz.fx180 (Tryz.f180.body.getD .skip) = true := by kernel_rfl

def Tryz.fx181 : Fx := { n := 93, keep := [0, 1, 4, 5, 11, 61, 81], plans := [(4, { ex := [13, 21], mu := [28], p := .take 0 <| .take 1 <| .take 2 <| .take 3 <| .take 4 <| .take 5 <| .take 6 <| .take 7 <| .take 8 <| .take 9 <| .take 10 <| .take 11 <| .take 12 <| .take 14 <| .take 15 <| .take 16 <| .take 17 <| .take 18 <| .take 20 <| .take 23 <| .take 24 <| .take 25 <| .take 26 <| .take 27 <| .eff 13 <| .take 19 <| .eff 21 <| .take 22 <| .eff 28 <| .take 29 <| .done }), (8, { ex := [], mu := [14], p := .take 0 <| .take 1 <| .take 2 <| .take 3 <| .take 4 <| .take 5 <| .take 6 <| .take 7 <| .take 8 <| .take 9 <| .take 10 <| .take 11 <| .take 12 <| .take 13 <| .eff 14 <| .done })] }

theorem Tryz.ok181 : okCode Tryz.fx181 (Tryz.f181.body.getD .skip) = true := by kernel_rfl

def Tryz.fx185 : Fx := { n := 6, keep := [0, 2], plans := [] }

theorem Tryz.ok185 : okCode Tryz.fx185 (Tryz.f185.body.getD .skip) = true := by kernel_rfl

def Tryz.fx186 : Fx := { n := 6, keep := [0, 1, 4], plans := [] }

theorem Tryz.ok186 : okCode Tryz.fx186 (Tryz.f186.body.getD .skip) = true := by kernel_rfl

def Tryz.fx188 : Fx := { n := 12, keep := [0, 1, 2, 4], plans := [] }

theorem Tryz.ok188 : okCode Tryz.fx188 (Tryz.f188.body.getD .skip) = true := by kernel_rfl

end Go.Proofs
