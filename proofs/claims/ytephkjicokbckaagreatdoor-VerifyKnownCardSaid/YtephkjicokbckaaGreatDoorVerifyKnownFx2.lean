import Derived.Test.YtephkjicokbckaaGreatDoorVerifyKnownLay
section
namespace Go.Proofs

open Go Go.Vx

def Tryz.fx28 : Fx := { n := 85, keep := [0, 1, 2, 6, 7, 8, 10, 11, 12, 13, 14, 15, 19, 28, 32, 33, 34, 35, 50, 51, 52, 53, 68, 81], plans := [] }

theorem Tryz.ok28 : okCode Tryz.fx28 (Tryz.f28.body.getD .skip) = true := by kernel_rfl

def Tryz.fx42 : Fx := { n := 53, keep := [0, 1, 2, 3, 4, 5, 6, 7, 8, 9, 10, 11, 12, 13, 14, 15, 16, 18, 19, 20, 21, 32, 48], plans := [(3, { ex := [], mu := [], p := .take 0 <| .take 1 <| .take 2 <| .take 3 <| .done }), (12, { ex := [], mu := [], p := .take 0 <| .take 1 <| .take 2 <| .take 3 <| .done }), (13, { ex := [], mu := [], p := .take 0 <| .take 1 <| .take 2 <| .take 3 <| .take 4 <| .take 5 <| .done })] }

theorem Tryz.ok42 : okCode Tryz.fx42 (Tryz.f42.body.getD .skip) = true := by kernel_rfl

def Tryz.fx50 : Fx := { n := 6, keep := [0, 1, 2], plans := [] }

theorem Tryz.ok50 : okCode Tryz.fx50 (Tryz.f50.body.getD .skip) = true := by kernel_rfl

def Tryz.fx57 : Fx := { n := 29, keep := [0, 1, 4, 5, 6, 7, 11, 24], plans := [] }

theorem Tryz.ok57 : okCode Tryz.fx57 (Tryz.f57.body.getD .skip) = true := by kernel_rfl

def Tryz.fx62 : Fx := { n := 71, keep := [0, 2, 3, 5, 6, 8, 10, 12, 23, 24, 25, 26, 40, 41, 42, 43, 53, 54, 55, 56], plans := [] }

theorem Tryz.ok62 : okCode Tryz.fx62 (Tryz.f62.body.getD .skip) = true := by kernel_rfl

def Tryz.fx76 : Fx := { n := 6, keep := [0, 1, 2], plans := [] }

theorem Tryz.ok76 : okCode Tryz.fx76 (Tryz.f76.body.getD .skip) = true := by kernel_rfl

def Tryz.fx87 : Fx := { n := 17, keep := [0, 2, 3, 4, 5], plans := [] }

theorem Tryz.ok87 : okCode Tryz.fx87 (Tryz.f87.body.getD .skip) = true := by kernel_rfl

def Tryz.fx90 : Fx := { n := 15, keep := [0, 1, 2, 6], plans := [] }

theorem Tryz.ok90 : okCode Tryz.fx90 (Tryz.f90.body.getD .skip) = true := by kernel_rfl

def Tryz.fx91 : Fx := { n := 9, keep := [0, 1, 4], plans := [] }

theorem Tryz.ok91 : okCode Tryz.fx91 (Tryz.f91.body.getD .skip) = true := by kernel_rfl

def Tryz.fx103 : Fx := { n := 4, keep := [0, 1], plans := [] }

theorem Tryz.ok103 : okCode Tryz.fx103 (Tryz.f103.body.getD .skip) = true := by kernel_rfl

def Tryz.fx106 : Fx := { n := 6, keep := [0, 1, 2], plans := [] }

theorem Tryz.ok106 : okCode Tryz.fx106 (Tryz.f106.body.getD .skip) = true := by kernel_rfl

def Tryz.fx112 : Fx := { n := 2, keep := [0], plans := [] }

theorem Tryz.ok112 : okCode Tryz.fx112 (Tryz.f112.body.getD .skip) = true := by kernel_rfl

def Tryz.fx119 : Fx := { n := 36, keep := [0, 2, 3, 5, 6, 8, 9, 10, 11, 12, 20, 25, 26, 27, 28], plans := [] }

theorem Tryz.ok119 : okCode Tryz.fx119 (Tryz.f119.body.getD .skip) = true := by kernel_rfl

def Tryz.fx123 : Fx := { n := 8, keep := [0, 2, 4], plans := [] }

theorem Tryz.ok123 : okCode Tryz.fx123 (Tryz.f123.body.getD .skip) = true := by kernel_rfl

def Tryz.fx125 : Fx := { n := 34, keep := [0, 1, 2, 4, 5, 6, 7, 8, 9, 10, 14, 21], plans := [] }

theorem Tryz.ok125 : okCode Tryz.fx125 (Tryz.f125.body.getD .skip) = true := by kernel_rfl

def Tryz.fx130 : Fx := { n := 34, keep := [0, 2, 3, 4, 5, 8, 20, 21], plans := [(3, { ex := [8, 10], mu := [11], p := .take 0 <| .take 1 <| .take 2 <| .take 3 <| .take 4 <| .take 5 <| .take 6 <| .take 7 <| .fork 8 10 (.take 9 <| .eff 10 <| .eff 11 <| .done) (.eff 8 <| .take 9 <| .eff 11 <| .done) }), (7, { ex := [4, 5, 6], mu := [7, 9], p := .take 0 <| .take 1 <| .take 2 <| .take 3 <| .eff 4 <| .eff 5 <| .eff 6 <| .eff 7 <| .take 8 <| .eff 9 <| .done })] }

theorem Tryz.ok130 : okCode Tryz.fx130 (Tryz.f130.body.getD .skip) = true := by kernel_rfl

def Tryz.fx133 : Fx := { n := 8, keep := [0, 1, 4], plans := [] }

theorem Tryz.ok133 : okCode Tryz.fx133 (Tryz.f133.body.getD .skip) = true := by kernel_rfl

def Tryz.fx146 : Fx := { n := 20, keep := [0, 1, 2, 4, 5, 6, 12], plans := [] }

theorem Tryz.ok146 : okCode Tryz.fx146 (Tryz.f146.body.getD .skip) = true := by kernel_rfl

def Tryz.fx147 : Fx := { n := 79, keep := [0, 1, 2, 4, 5, 6, 7, 8, 10, 12, 25, 26, 27, 28, 31, 32, 33, 34, 44, 54, 63, 78], plans := [(1, { ex := [], mu := [], p := .take 0 <| .take 1 <| .take 2 <| .take 3 <| .take 4 <| .take 5 <| .take 6 <| .take 7 <| .take 8 <| .done })] }

theorem Tryz.ok147 : okCode Tryz.fx147 (Tryz.f147.body.getD .skip) = true := by kernel_rfl

def Tryz.fx148 : Fx := { n := 14, keep := [0, 1, 2, 4], plans := [(1, { ex := [2], mu := [8], p := .take 0 <| .take 1 <| .take 4 <| .take 5 <| .take 6 <| .take 7 <| .eff 2 <| .take 3 <| .eff 8 <| .take 9 <| .done })] }

theorem Tryz.ok148 : okCode Tryz.fx148 (Tryz.f148.body.getD .skip) = true := by kernel_rfl

def Tryz.fx155 : Fx := { n := 17, keep := [0, 1, 4], plans := [(1, { ex := [], mu := [], p := .take 0 <| .take 1 <| .take 2 <| .take 3 <| .take 4 <| .take 5 <| .take 6 <| .take 7 <| .take 8 <| .take 9 <| .take 10 <| .take 11 <| .take 12 <| .done })] }

theorem Tryz.ok155 : okCode Tryz.fx155 (Tryz.f155.body.getD .skip) = true := by kernel_rfl

def Tryz.fx157 : Fx := { n := 8, keep := [0, 1, 2, 3, 4, 5, 6], plans := [] }

theorem Tryz.ok157 : okCode Tryz.fx157 (Tryz.f157.body.getD .skip) = true := by kernel_rfl

def Tryz.fx167 : Fx := { n := 19, keep := [0, 1, 4, 5, 7, 8, 9, 16], plans := [] }

theorem Tryz.ok167 : okCode Tryz.fx167 (Tryz.f167.body.getD .skip) = true := by kernel_rfl

def Tryz.fx178 : Fx := { n := 10, keep := [0, 1, 2, 3, 4], plans := [] }

theorem Tryz.ok178 : okCode Tryz.fx178 (Tryz.f178.body.getD .skip) = true := by kernel_rfl

def Tryz.fx180 : Fx := { n := 27, keep := [0, 1, 2, 3, 4, 5, 6, 7, 13], plans := [] }

theorem Tryz.ok180 : okCode Tryz.fx180 (Tryz.f180.body.getD .skip) = true := by kernel_rfl

def Tryz.fx181 : Fx := { n := 93, keep := [0, 1, 4, 5, 11, 61, 81], plans := [(4, { ex := [13, 21], mu := [28], p := .take 0 <| .take 1 <| .take 2 <| .take 3 <| .take 4 <| .take 5 <| .take 6 <| .take 7 <| .take 8 <| .take 9 <| .take 10 <| .take 11 <| .take 12 <| .take 14 <| .take 15 <| .take 16 <| .take 17 <| .take 18 <| .take 20 <| .take 23 <| .take 24 <| .take 25 <| .take 26 <| .take 27 <| .eff 13 <| .take 19 <| .eff 21 <| .take 22 <| .eff 28 <| .take 29 <| .done }), (8, { ex := [], mu := [14], p := .take 0 <| .take 1 <| .take 2 <| .take 3 <| .take 4 <| .take 5 <| .take 6 <| .take 7 <| .take 8 <| .take 9 <| .take 10 <| .take 11 <| .take 12 <| .take 13 <| .eff 14 <| .done })] }

theorem Tryz.ok181 : okCode Tryz.fx181 (Tryz.f181.body.getD .skip) = true := by kernel_rfl

def Tryz.fx185 : Fx := { n := 6, keep := [0, 2], plans := [] }

theorem Tryz.ok185 : okCode Tryz.fx185 (Tryz.f185.body.getD .skip) = true := by kernel_rfl

def Tryz.fx186 : Fx := { n := 6, keep := [0, 1, 4], plans := [] }

theorem Tryz.ok186 : okCode Tryz.fx186 (Tryz.f186.body.getD .skip) = true := by kernel_rfl

def Tryz.fx188 : Fx := { n := 12, keep := [0, 1, 2, 4], plans := [] }

theorem Tryz.ok188 : okCode Tryz.fx188 (Tryz.f188.body.getD .skip) = true := by kernel_rfl

end Go.Proofs
end

section
namespace Go.Proofs

open Go Go.Vx

def Tryz.fx13 : Fx := { n := 255, keep := [0, 1, 2, 5, 6, 7, 8, 9, 10, 11, 12, 13, 14, 15, 16, 17, 18, 19, 20, 22, 23, 74, 90, 92, 96, 97, 100, 103, 106, 136, 188, 226], plans := [(23, { ex := [], mu := [], p := .take 0 <| .take 1 <| .take 2 <| .take 3 <| .take 4 <| .take 5 <| .take 6 <| .take 7 <| .take 8 <| .take 9 <| .take 10 <| .take 11 <| .take 12 <| .take 13 <| .take 14 <| .take 15 <| .take 16 <| .take 17 <| .take 18 <| .take 19 <| .take 20 <| .take 21 <| .take 22 <| .take 23 <| .take 24 <| .take 25 <| .take 26 <| .take 27 <| .done })] }

theorem Tryz.ok13 : okCode Tryz.fx13 (Tryz.f13.body.getD .skip) = true := by kernel_rfl

def Tryz.fx44 : Fx := { n := 10, keep := [0, 1], plans := [] }

theorem Tryz.ok44 : okCode Tryz.fx44 (Tryz.f44.body.getD .skip) = true := by kernel_rfl

def Tryz.fx47 : Fx := { n := 18, keep := [0, 2, 4, 5, 6, 7, 8, 9, 15], plans := [] }

theorem Tryz.ok47 : okCode Tryz.fx47 (Tryz.f47.body.getD .skip) = true := by kernel_rfl

def Tryz.fx48 : Fx := { n := 4, keep := [0, 1], plans := [] }

theorem Tryz.ok48 : okCode Tryz.fx48 (Tryz.f48.body.getD .skip) = true := by kernel_rfl

def Tryz.fx49 : Fx := { n := 81, keep := [0, 1, 2, 4, 5, 7, 8, 13, 29, 34, 35, 36, 37, 43, 47, 48, 49, 50, 79], plans := [] }

theorem Tryz.ok49 : okCode Tryz.fx49 (Tryz.f49.body.getD .skip) = true := by kernel_rfl

def Tryz.fx52 : Fx := { n := 6, keep := [0, 1, 2], plans := [] }

theorem Tryz.ok52 : okCode Tryz.fx52 (Tryz.f52.body.getD .skip) = true := by kernel_rfl

def Tryz.fx53 : Fx := { n := 30, keep := [0, 1, 2, 4, 6, 7, 11, 15, 16, 17, 18, 28], plans := [] }

theorem Tryz.ok53 : okCode Tryz.fx53 (Tryz.f53.body.getD .skip) = true := by kernel_rfl

def Tryz.fx56 : Fx := { n := 32, keep := [0, 2, 3, 4, 5, 8, 21, 22, 23], plans := [] }

theorem Tryz.ok56 : okCode Tryz.fx56 (Tryz.f56.body.getD .skip) = true := by kernel_rfl

def Tryz.fx61 : Fx := { n := 22, keep := [0, 1, 4, 5, 7, 8, 9, 10, 11], plans := [] }

theorem Tryz.ok61 : okCode Tryz.fx61 (Tryz.f61.body.getD .skip) = true := by kernel_rfl

def Tryz.fx77 : Fx := { n := 18, keep := [0, 1, 2, 4, 6], plans := [] }

theorem Tryz.ok77 : okCode Tryz.fx77 (Tryz.f77.body.getD .skip) = true := by kernel_rfl

def Tryz.fx78 : Fx := { n := 6, keep := [0, 1, 2], plans := [] }

theorem Tryz.ok78 : okCode Tryz.fx78 (Tryz.f78.body.getD .skip) = true := by kernel_rfl

def Tryz.fx79 : Fx := { n := 183, keep := [0, 1, 3, 4, 5, 6, 7, 8, 9, 10, 11, 13, 15, 22, 24, 29, 97, 119, 125, 178, 181], plans := [(10, { ex := [], mu := [6], p := .take 0 <| .take 1 <| .take 2 <| .take 3 <| .take 4 <| .take 5 <| .eff 6 <| .take 7 <| .take 8 <| .take 9 <| .take 10 <| .take 11 <| .done }), (11, { ex := [], mu := [6], p := .take 0 <| .take 1 <| .take 2 <| .take 3 <| .take 4 <| .take 5 <| .eff 6 <| .take 7 <| .take 8 <| .take 9 <| .take 10 <| .take 11 <| .done }), (12, { ex := [35], mu := [36], p := .take 0 <| .take 1 <| .take 2 <| .take 3 <| .take 4 <| .take 5 <| .take 6 <| .take 7 <| .take 8 <| .take 9 <| .take 10 <| .take 11 <| .take 12 <| .take 13 <| .take 14 <| .take 15 <| .take 16 <| .take 17 <| .take 18 <| .take 19 <| .take 20 <| .take 21 <| .take 22 <| .take 23 <| .take 24 <| .take 25 <| .take 26 <| .take 27 <| .take 28 <| .take 29 <| .take 30 <| .take 31 <| .take 32 <| .take 33 <| .take 34 <| .eff 35 <| .eff 36 <| .done }), (13, { ex := [], mu := [], p := .take 0 <| .take 1 <| .take 2 <| .take 3 <| .take 4 <| .take 5 <| .take 6 <| .take 7 <| .done }), (14, { ex := [], mu := [13], p := .take 0 <| .take 1 <| .take 2 <| .take 3 <| .take 4 <| .take 5 <| .take 6 <| .take 7 <| .take 8 <| .take 9 <| .take 10 <| .take 11 <| .take 12 <| .eff 13 <| .done }), (16, { ex := [], mu := [], p := .take 0 <| .take 1 <| .take 2 <| .take 3 <| .take 4 <| .take 5 <| .take 6 <| .take 7 <| .done }), (19, { ex := [], mu := [29], p := .take 0 <| .take 1 <| .take 2 <| .take 3 <| .take 4 <| .take 5 <| .take 6 <| .take 7 <| .take 8 <| .take 9 <| .take 10 <| .take 11 <| .take 12 <| .take 13 <| .take 14 <| .take 15 <| .take 16 <| .take 17 <| .take 18 <| .take 19 <| .take 20 <| .take 21 <| .take 22 <| .take 23 <| .take 24 <| .take 25 <| .take 26 <| .take 27 <| .take 28 <| .eff 29 <| .done }), (20, { ex := [], mu := [17], p := .take 0 <| .take 1 <| .take 2 <| .take 3 <| .take 4 <| .take 5 <| .take 6 <| .take 7 <| .take 8 <| .take 9 <| .take 10 <| .take 11 <| .take 12 <| .take 13 <| .take 14 <| .take 15 <| .take 16 <| .eff 17 <| .done })] }

theorem Tryz.ok79 : okCode Tryz.fx79 (Tryz.f79.body.getD .skip) = true := by kernel_rfl

def Tryz.fx84 : Fx := { n := 73, keep := [0, 1, 2, 3, 4, 6, 7, 8, 22, 24, 25, 26, 27, 31, 39], plans := [] }

theorem Tryz.ok84 : okCode Tryz.fx84 (Tryz.f84.body.getD .skip) = true := by kernel_rfl

def Tryz.fx86 : Fx := { n := 7, keep := [0, 1, 4, 5], plans := [] }

theorem Tryz.ok86 : okCode Tryz.fx86 (Tryz.f86.body.getD .skip) = true := by kernel_rfl

def Tryz.fx92 : Fx := { n := 7, keep := [0, 1, 2], plans := [] }

theorem Tryz.ok92 : okCode Tryz.fx92 (Tryz.f92.body.getD .skip) = true := by kernel_rfl

def Tryz.fx107 : Fx := { n := 8, keep := [0, 1, 2], plans := [] }

theorem Tryz.ok107 : okCode Tryz.fx107 (Tryz.f107.body.getD .skip) = true := by kernel_rfl

def Tryz.fx109 : Fx := { n := 10, keep := [0, 2, 3], plans := [] }

theorem Tryz.ok109 : okCode Tryz.fx109 (Tryz.f109.body.getD .skip) = true := by kernel_rfl

def Tryz.fx114 : Fx := { n := 14, keep := [0, 1, 2, 4], plans := [] }

theorem Tryz.ok114 : okCode Tryz.fx114 (Tryz.f114.body.getD .skip) = true := by kernel_rfl

def Tryz.fx121 : Fx := { n := 6, keep := [0, 1], plans := [] }

theorem Tryz.ok121 : okCode Tryz.fx121 (Tryz.f121.body.getD .skip) = true := by kernel_rfl

def Tryz.fx124 : Fx := { n := 8, keep := [0, 2, 4], plans := [] }

theorem Tryz.ok124 : okCode Tryz.fx124 (Tryz.f124.body.getD .skip) = true := by kernel_rfl

def Tryz.fx140 : Fx := { n := 16, keep := [0, 1, 2, 3, 4], plans := [] }

theorem Tryz.ok140 : okCode Tryz.fx140 (Tryz.f140.body.getD .skip) = true := by kernel_rfl

def Tryz.fx149 : Fx := { n := 69, keep := [0, 1, 2, 4, 5, 6, 8, 10, 16, 17, 18, 19, 23, 24, 25, 26, 32, 33, 37, 43, 56], plans := [] }

theorem Tryz.ok149 : okCode Tryz.fx149 (Tryz.f149.body.getD .skip) = true := by kernel_rfl

def Tryz.fx153 : Fx := { n := 8, keep := [0, 2, 4], plans := [] }

theorem Tryz.ok153 : okCode Tryz.fx153 (Tryz.f153.body.getD .skip) = true := by kernel_rfl

def Tryz.fx154 : Fx := { n := 26, keep := [0, 1, 2, 3, 5, 8, 9, 10, 11], plans := [(5, { ex := [8, 9], mu := [10], p := .take 0 <| .take 1 <| .take 2 <| .take 3 <| .take 4 <| .take 5 <| .take 6 <| .take 7 <| .eff 8 <| .eff 9 <| .eff 10 <| .done })] }

theorem Tryz.ok154 : okCode Tryz.fx154 (Tryz.f154.body.getD .skip) = true := by kernel_rfl

def Tryz.fx162 : Fx := { n := 20, keep := [0, 1, 4, 5, 6, 11, 12, 13, 16, 19], plans := [] }

theorem Tryz.ok162 : okCode Tryz.fx162 (Tryz.f162.body.getD .skip) = true := by kernel_rfl

def Tryz.fx165 : Fx := { n := 15, keep := [0, 2, 3, 4, 5, 8, 11], plans := [] }

theorem Tryz.ok165 : okCode Tryz.fx165 (Tryz.f165.body.getD .skip) = true := by kernel_rfl

def Tryz.fx168 : Fx := { n := 19, keep := [0, 1, 4, 5, 7, 8, 9, 16], plans := [] }

theorem Tryz.ok168 : okCode Tryz.fx168 (Tryz.f168.body.getD .skip) = true := by kernel_rfl

def Tryz.fx169 : Fx := { n := 27, keep := [0, 1, 4, 6, 16], plans := [] }

theorem Tryz.ok169 : okCode Tryz.fx169 (Tryz.f169.body.getD .skip) = true := by kernel_rfl

def Tryz.fx177 : Fx := { n := 33, keep := [0, 1, 4, 5, 6, 9, 17, 27], plans := [(7, { ex := [], mu := [6], p := .take 0 <| .take 1 <| .take 2 <| .take 3 <| .take 4 <| .take 5 <| .eff 6 <| .take 7 <| .done })] }

theorem Tryz.ok177 : okCode Tryz.fx177 (Tryz.f177.body.getD .skip) = true := by kernel_rfl

def Tryz.fx183 : Fx := { n := 20, keep := [0, 1, 2, 4, 6, 9, 10, 11, 12, 18], plans := [] }

theorem Tryz.ok183 : okCode Tryz.fx183 (Tryz.f183.body.getD .skip) = true := by kernel_rfl

end Go.Proofs
end
