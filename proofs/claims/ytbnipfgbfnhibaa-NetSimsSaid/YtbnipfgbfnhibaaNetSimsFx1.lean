/- The functions' frames and plans: printed by wip/gen/fx.py. -/

import Derived.Test.YtbnipfgbfnhibaaNetSimsLay

namespace Go.Proofs

open Go Go.Vx

/-- ganglion/ganglionlaw02.NetSims -/
def Try.fx15 : Fx := { n := 99, keep := [0, 1, 2, 4, 5, 6, 7, 8, 9, 10, 11, 12, 20, 25, 34, 55, 57, 62, 83, 97], plans := [(17, { ex := [], mu := [7], p := .take 0 <| .take 1 <| .take 2 <| .take 3 <| .take 4 <| .take 5 <| .take 6 <| .eff 7 <| .take 8 <| .done }), (18, { ex := [4], mu := [], p := .take 0 <| .take 1 <| .take 2 <| .take 3 <| .take 5 <| .take 6 <| .take 7 <| .take 8 <| .eff 4 <| .take 9 <| .take 10 <| .done }), (21, { ex := [5], mu := [6], p := .take 0 <| .take 1 <| .take 2 <| .take 3 <| .take 4 <| .eff 5 <| .eff 6 <| .take 7 <| .take 8 <| .done })] }

theorem Try.ok15 : okCode Try.fx15 (Try.f15.body.getD .skip) = true := by kernel_rfl

/-- ganglion/ganglionlaw02.works -/
def Try.fx18 : Fx := { n := 42, keep := [0, 1, 2, 3, 4], plans := [] }

theorem Try.ok18 : okCode Try.fx18 (Try.f18.body.getD .skip) = true := by kernel_rfl

/-- (*ganglion/ganglionref02.Sim).Step -/
def Try.fx41 : Fx := { n := 52, keep := [0, 1, 4, 5, 6, 11, 15, 34, 48], plans := [(6, { ex := [], mu := [], p := .take 0 <| .take 1 <| .take 2 <| .take 3 <| .take 4 <| .take 5 <| .take 6 <| .take 7 <| .take 8 <| .take 9 <| .take 10 <| .take 11 <| .take 12 <| .take 13 <| .take 14 <| .take 15 <| .take 16 <| .done }), (8, { ex := [], mu := [], p := .take 0 <| .take 1 <| .take 2 <| .take 3 <| .take 4 <| .take 5 <| .take 6 <| .take 7 <| .take 8 <| .take 9 <| .take 10 <| .take 11 <| .take 12 <| .take 13 <| .done })] }

theorem Try.ok41 : okCode Try.fx41 (Try.f41.body.getD .skip) = true := by kernel_rfl

/-- ganglion/ganglionlaw02.sameImage -/
def Try.fx44 : Fx := { n := 67, keep := [0, 1, 2, 3, 4, 5, 6, 29, 34, 47, 52, 66], plans := [(6, { ex := [], mu := [], p := .take 0 <| .take 1 <| .take 2 <| .take 3 <| .take 4 <| .take 5 <| .take 6 <| .take 7 <| .take 8 <| .take 9 <| .take 10 <| .done }), (11, { ex := [], mu := [10], p := .take 0 <| .take 1 <| .take 2 <| .take 3 <| .take 4 <| .take 5 <| .take 6 <| .take 7 <| .take 8 <| .take 9 <| .eff 10 <| .take 11 <| .done })] }

theorem Try.ok44 : okCode Try.fx44 (Try.f44.body.getD .skip) = true := by kernel_rfl

/-- ganglion/ganglionlaw02.act -/
def Try.fx49 : Fx := { n := 74, keep := [0, 1, 2, 3, 4, 7, 8, 9, 10, 11, 12, 13, 14, 15, 16, 17, 20, 21, 28, 46, 72], plans := [] }

theorem Try.ok49 : okCode Try.fx49 (Try.f49.body.getD .skip) = true := by kernel_rfl

/-- ganglion/neuron.Check -/
def Try.fx53 : Fx := { n := 70, keep := [0, 1, 2, 3, 4, 5, 6, 20, 28, 69], plans := [(4, { ex := [], mu := [], p := .take 0 <| .take 1 <| .take 2 <| .take 3 <| .take 4 <| .take 5 <| .take 6 <| .done })] }

theorem Try.ok53 : okCode Try.fx53 (Try.f53.body.getD .skip) = true := by kernel_rfl

/-- ganglion/net.source -/
def Try.fx54 : Fx := { n := 14, keep := [0, 1, 2, 4], plans := [] }

theorem Try.ok54 : okCode Try.fx54 (Try.f54.body.getD .skip) = true := by kernel_rfl

/-- ganglion/ganglionref01.Check -/
def Try.fx56 : Fx := { n := 73, keep := [0, 1, 2, 3, 4, 5, 15, 20, 21, 26, 54, 72], plans := [] }

theorem Try.ok56 : okCode Try.fx56 (Try.f56.body.getD .skip) = true := by kernel_rfl

/-- ganglion/net.wired -/
def Try.fx66 : Fx := { n := 26, keep := [0, 1, 2, 3, 5, 8, 9, 10, 11], plans := [(5, { ex := [8, 9], mu := [10], p := .take 0 <| .take 1 <| .take 2 <| .take 3 <| .take 4 <| .take 5 <| .take 6 <| .take 7 <| .eff 8 <| .eff 9 <| .eff 10 <| .done })] }

theorem Try.ok66 : okCode Try.fx66 (Try.f66.body.getD .skip) = true := by kernel_rfl

/-- (*ganglion/net.course).send -/
def Try.fx73 : Fx := { n := 27, keep := [0, 1, 2, 3, 4, 5, 8, 15, 16], plans := [] }

theorem Try.ok73 : okCode Try.fx73 (Try.f73.body.getD .skip) = true := by kernel_rfl

/-- slices.ContainsFunc[[][]int,[]int] -/
def Try.fx81 : Fx := { n := 9, keep := [0, 1, 4], plans := [] }

theorem Try.ok81 : okCode Try.fx81 (Try.f81.body.getD .skip) = true := by kernel_rfl

/-- (*ganglion/net.Sim).is -/
def Try.fx89 : Fx := { n := 13, keep := [0, 2], plans := [] }

theorem Try.ok89 : okCode Try.fx89 (Try.f89.body.getD .skip) = true := by kernel_rfl

/-- ganglion/net.ascending -/
def Try.fx90 : Fx := { n := 34, keep := [0, 1, 2, 4, 5, 6, 7, 8, 9, 10, 14, 21], plans := [] }

theorem Try.ok90 : okCode Try.fx90 (Try.f90.body.getD .skip) = true := by kernel_rfl

/-- ganglion/ganglionlaw01.A -/
def Try.fx93 : Fx := { n := 2, keep := [0], plans := [] }

theorem Try.ok93 : okCode Try.fx93 (Try.f93.body.getD .skip) = true := by kernel_rfl

/-- ganglion/ganglionref01.within -/
def Try.fx96 : Fx := { n := 15, keep := [0, 1, 2, 6], plans := [] }

theorem Try.ok96 : okCode Try.fx96 (Try.f96.body.getD .skip) = true := by kernel_rfl

/-- slices.IndexFunc[[]int,int] -/
def Try.fx107 : Fx := { n := 19, keep := [0, 1, 4, 5, 7, 8, 9, 16], plans := [] }

theorem Try.ok107 : okCode Try.fx107 (Try.f107.body.getD .skip) = true := by kernel_rfl

/-- ganglion/neuron.leaks$1 -/
def Try.fx112 : Fx := { n := 6, keep := [0, 1, 4], plans := [] }

theorem Try.ok112 : okCode Try.fx112 (Try.f112.body.getD .skip) = true := by kernel_rfl

/-- (*ganglion/neuron.cell).tick -/
def Try.fx116 : Fx := { n := 93, keep := [0, 1, 4, 5, 11, 61, 81], plans := [(4, { ex := [13, 21], mu := [28], p := .take 0 <| .take 1 <| .take 2 <| .take 3 <| .take 4 <| .take 5 <| .take 6 <| .take 7 <| .take 8 <| .take 9 <| .take 10 <| .take 11 <| .take 12 <| .take 14 <| .take 15 <| .take 16 <| .take 17 <| .take 18 <| .take 20 <| .take 23 <| .take 24 <| .take 25 <| .take 26 <| .take 27 <| .eff 13 <| .take 19 <| .eff 21 <| .take 22 <| .eff 28 <| .take 29 <| .done }), (8, { ex := [], mu := [14], p := .take 0 <| .take 1 <| .take 2 <| .take 3 <| .take 4 <| .take 5 <| .take 6 <| .take 7 <| .take 8 <| .take 9 <| .take 10 <| .take 11 <| .take 12 <| .take 13 <| .eff 14 <| .done })] }

theorem Try.ok116 : okCode Try.fx116 (Try.f116.body.getD .skip) = true := by kernel_rfl

/-- (ganglion/net.wires).from$1 -/
def Try.fx117 : Fx := { n := 34, keep := [0, 1, 2, 3, 4, 5, 7, 9, 11, 12, 13, 14, 20, 22, 23, 24, 25, 32], plans := [] }

theorem Try.ok117 : okCode Try.fx117 (Try.f117.body.getD .skip) = true := by kernel_rfl

/-- ganglion/neuron.Silent -/
def Try.fx120 : Fx := { n := 38, keep := [0, 1, 2, 3, 4, 5, 6, 7, 8, 9, 10, 11, 12, 19, 24], plans := [(8, { ex := [], mu := [6], p := .take 0 <| .take 1 <| .take 2 <| .take 3 <| .take 4 <| .take 5 <| .eff 6 <| .take 7 <| .done })] }

theorem Try.ok120 : okCode Try.fx120 (Try.f120.body.getD .skip) = true := by kernel_rfl

/-- ganglion/neuron.Silent$1 -/
def Try.fx133 : Fx := { n := 13, keep := [0, 1, 3, 4, 5, 6, 11], plans := [] }

theorem Try.ok133 : okCode Try.fx133 (Try.f133.body.getD .skip) = true := by kernel_rfl

end Go.Proofs
