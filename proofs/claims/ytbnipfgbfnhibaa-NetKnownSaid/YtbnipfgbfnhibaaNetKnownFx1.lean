/- The functions' frames and plans: printed by wip/gen/fx.py. -/

import Derived.Test.YtbnipfgbfnhibaaNetKnownLay

namespace Go.Proofs

open Go Go.Vx

/-- ganglion/ganglionlaw02.works -/
def Try.fx18 : Fx := { n := 42, keep := [0, 1, 2, 3, 4], plans := [] }

theorem Try.ok18 : okCode Try.fx18 (Try.f18.body.getD .skip) = true := by kernel_rfl

/-- ganglion/net.Reach -/
def Try.fx32 : Fx := { n := 53, keep := [0, 1, 2, 4, 5, 6, 7, 8, 9, 11, 12, 13, 17, 21, 26, 27, 28, 29, 41, 42, 43], plans := [] }

theorem Try.ok32 : okCode Try.fx32 (Try.f32.body.getD .skip) = true := by kernel_rfl

/-- ganglion/net.Join -/
def Try.fx36 : Fx := { n := 106, keep := [0, 1, 2, 3, 4, 5, 7, 8, 9, 10, 11, 12, 15, 16, 17, 18, 24, 52, 53, 54, 78, 102], plans := [(8, { ex := [15, 18, 4, 5, 16], mu := [19], p := .take 0 <| .take 1 <| .take 2 <| .take 3 <| .take 6 <| .take 7 <| .take 8 <| .take 9 <| .take 10 <| .take 11 <| .take 12 <| .take 13 <| .take 14 <| .fork3 4 15 18 (.fork3 5 15 18 (.fork 15 18 (.fork 16 18 (.take 17 <| .eff 18 <| .eff 19 <| .done) (.eff 16 <| .take 17 <| .eff 19 <| .done)) (.eff 15 <| .eff 16 <| .take 17 <| .eff 19 <| .done)) (.fork 5 18 (.fork 16 18 (.take 17 <| .eff 18 <| .eff 19 <| .done) (.eff 16 <| .take 17 <| .eff 19 <| .done)) (.eff 5 <| .eff 16 <| .take 17 <| .eff 19 <| .done)) (.fork 5 15 (.eff 15 <| .eff 16 <| .take 17 <| .eff 19 <| .done) (.eff 5 <| .eff 16 <| .take 17 <| .eff 19 <| .done))) (.fork 4 18 (.fork 5 18 (.fork 16 18 (.take 17 <| .eff 18 <| .eff 19 <| .done) (.eff 16 <| .take 17 <| .eff 19 <| .done)) (.eff 5 <| .eff 16 <| .take 17 <| .eff 19 <| .done)) (.eff 4 <| .eff 5 <| .eff 16 <| .take 17 <| .eff 19 <| .done)) (.fork 4 15 (.fork 5 15 (.eff 15 <| .eff 16 <| .take 17 <| .eff 19 <| .done) (.eff 5 <| .eff 16 <| .take 17 <| .eff 19 <| .done)) (.eff 4 <| .eff 5 <| .eff 16 <| .take 17 <| .eff 19 <| .done)) }), (13, { ex := [], mu := [10], p := .take 0 <| .take 1 <| .take 2 <| .take 3 <| .take 4 <| .take 5 <| .take 6 <| .take 7 <| .take 8 <| .take 9 <| .eff 10 <| .done }), (15, { ex := [], mu := [9], p := .take 0 <| .take 1 <| .take 2 <| .take 3 <| .take 4 <| .take 5 <| .take 6 <| .take 7 <| .take 8 <| .eff 9 <| .done }), (16, { ex := [], mu := [10], p := .take 0 <| .take 1 <| .take 2 <| .take 3 <| .take 4 <| .take 5 <| .take 6 <| .take 7 <| .take 8 <| .take 9 <| .eff 10 <| .done })] }

theorem Try.ok36 : okCode Try.fx36 (Try.f36.body.getD .skip) = true := by kernel_rfl

/-- ganglion/neuron.Check -/
def Try.fx53 : Fx := { n := 70, keep := [0, 1, 2, 3, 4, 5, 6, 20, 28, 69], plans := [(4, { ex := [], mu := [], p := .take 0 <| .take 1 <| .take 2 <| .take 3 <| .take 4 <| .take 5 <| .take 6 <| .done })] }

theorem Try.ok53 : okCode Try.fx53 (Try.f53.body.getD .skip) = true := by kernel_rfl

/-- ganglion/net.source -/
def Try.fx54 : Fx := { n := 14, keep := [0, 1, 2, 4], plans := [] }

theorem Try.ok54 : okCode Try.fx54 (Try.f54.body.getD .skip) = true := by kernel_rfl

/-- ganglion/net.wired -/
def Try.fx66 : Fx := { n := 26, keep := [0, 1, 2, 3, 5, 8, 9, 10, 11], plans := [(5, { ex := [8, 9], mu := [10], p := .take 0 <| .take 1 <| .take 2 <| .take 3 <| .take 4 <| .take 5 <| .take 6 <| .take 7 <| .eff 8 <| .eff 9 <| .eff 10 <| .done })] }

theorem Try.ok66 : okCode Try.fx66 (Try.f66.body.getD .skip) = true := by kernel_rfl

/-- (*ganglion/net.course).send -/
def Try.fx73 : Fx := { n := 27, keep := [0, 1, 2, 3, 4, 5, 8, 15, 16], plans := [] }

theorem Try.ok73 : okCode Try.fx73 (Try.f73.body.getD .skip) = true := by kernel_rfl

/-- (*ganglion/net.Sim).is -/
def Try.fx89 : Fx := { n := 13, keep := [0, 2], plans := [] }

theorem Try.ok89 : okCode Try.fx89 (Try.f89.body.getD .skip) = true := by kernel_rfl

/-- ganglion/net.ascending -/
def Try.fx90 : Fx := { n := 34, keep := [0, 1, 2, 4, 5, 6, 7, 8, 9, 10, 14, 21], plans := [] }

theorem Try.ok90 : okCode Try.fx90 (Try.f90.body.getD .skip) = true := by kernel_rfl

/-- ganglion/ganglionlaw01.A -/
def Try.fx93 : Fx := { n := 2, keep := [0], plans := [] }

theorem Try.ok93 : okCode Try.fx93 (Try.f93.body.getD .skip) = true := by kernel_rfl

/-- slices.IndexFunc[[]int,int] -/
def Try.fx107 : Fx := { n := 19, keep := [0, 1, 4, 5, 7, 8, 9, 16], plans := [] }

theorem Try.ok107 : okCode Try.fx107 (Try.f107.body.getD .skip) = true := by kernel_rfl

/-- slices.Grow[[]ganglion/api.Params,ganglion/api.Params] -/
def Try.fx108 : Fx := { n := 27, keep := [0, 1, 4, 6, 16], plans := [] }

theorem Try.ok108 : okCode Try.fx108 (Try.f108.body.getD .skip) = true := by kernel_rfl

/-- ganglion/neuron.leaks$1 -/
def Try.fx112 : Fx := { n := 6, keep := [0, 1, 4], plans := [] }

theorem Try.ok112 : okCode Try.fx112 (Try.f112.body.getD .skip) = true := by kernel_rfl

/-- (*ganglion/neuron.cell).tick -/
def Try.fx116 : Fx := { n := 93, keep := [0, 1, 4, 5, 11, 61, 81], plans := [(4, { ex := [13, 21], mu := [28], p := .take 0 <| .take 1 <| .take 2 <| .take 3 <| .take 4 <| .take 5 <| .take 6 <| .take 7 <| .take 8 <| .take 9 <| .take 10 <| .take 11 <| .take 12 <| .take 14 <| .take 15 <| .take 16 <| .take 17 <| .take 18 <| .take 20 <| .take 23 <| .take 24 <| .take 25 <| .take 26 <| .take 27 <| .eff 13 <| .take 19 <| .eff 21 <| .take 22 <| .eff 28 <| .take 29 <| .done }), (8, { ex := [], mu := [14], p := .take 0 <| .take 1 <| .take 2 <| .take 3 <| .take 4 <| .take 5 <| .take 6 <| .take 7 <| .take 8 <| .take 9 <| .take 10 <| .take 11 <| .take 12 <| .take 13 <| .eff 14 <| .done })] }

theorem Try.ok116 : okCode Try.fx116 (Try.f116.body.getD .skip) = true := by kernel_rfl

/-- (ganglion/net.wires).from$1 -/
def Try.fx117 : Fx := { n := 34, keep := [0, 1, 2, 3, 4, 5, 7, 9, 11, 12, 13, 14, 20, 22, 23, 24, 25, 32], plans := [] }

theorem Try.ok117 : okCode Try.fx117 (Try.f117.body.getD .skip) = true := by kernel_rfl

/-- ganglion/neuron.Silent -/
def Try.fx120 : Fx := { n := 38, keep := [0, 1, 2, 3, 4, 5, 6, 7, 8, 9, 10, 11, 12, 19, 24], plans := [(8, { ex := [], mu := [6], p := .take 0 <| .take 1 <| .take 2 <| .take 3 <| .take 4 <| .take 5 <| .eff 6 <| .take 7 <| .done })] }

theorem Try.ok120 : okCode Try.fx120 (Try.f120.body.getD .skip) = true := by kernel_rfl

/-- ganglion/neuron.Silent$1 -/
def Try.fx133 : Fx := { n := 13, keep := [0, 1, 3, 4, 5, 6, 11], plans := [] }

theorem Try.ok133 : okCode Try.fx133 (Try.f133.body.getD .skip) = true := by kernel_rfl

end Go.Proofs
