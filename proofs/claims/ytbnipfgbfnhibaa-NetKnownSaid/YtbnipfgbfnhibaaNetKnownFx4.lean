/- The functions' frames and plans: printed by wip/gen/fx.py. -/

import Derived.Test.YtbnipfgbfnhibaaNetKnownLay

namespace Go.Proofs

open Go Go.Vx

/-- ganglion/ganglionlaw02.NetKnown -/
def Try.fx16 : Fx := { n := 392, keep := [0, 1, 2, 3, 4, 5, 7, 9, 10, 11, 12, 13, 14, 15, 16, 17, 18, 19, 20, 68, 110, 171, 262, 341, 346, 351, 361], plans := [] }

theorem Try.ok16 : okCode Try.fx16 (Try.f16.body.getD .skip) = true := by kernel_rfl

/-- ganglion/ganglionlaw02.same -/
def Try.fx24 : Fx := { n := 26, keep := [0, 1, 4, 5, 10, 14, 25], plans := [(6, { ex := [], mu := [], p := .take 0 <| .take 1 <| .take 2 <| .take 3 <| .take 4 <| .take 5 <| .take 6 <| .take 7 <| .take 8 <| .done })] }

theorem Try.ok24 : okCode Try.fx24 (Try.f24.body.getD .skip) = true := by kernel_rfl

/-- ganglion/net.New -/
def Try.fx46 : Fx := { n := 12, keep := [0, 1, 2, 3, 4, 8], plans := [] }

theorem Try.ok46 : okCode Try.fx46 (Try.f46.body.getD .skip) = true := by kernel_rfl

/-- ganglion/net.start -/
def Try.fx59 : Fx := { n := 32, keep := [0, 1, 2, 3, 4, 18, 19], plans := [(2, { ex := [2, 6], mu := [8], p := .take 0 <| .take 1 <| .take 3 <| .take 4 <| .take 5 <| .fork 2 6 (.eff 6 <| .take 7 <| .eff 8 <| .take 9 <| .done) (.eff 2 <| .take 7 <| .eff 8 <| .take 9 <| .done) }), (6, { ex := [], mu := [5, 9], p := .take 0 <| .take 1 <| .take 2 <| .take 3 <| .take 4 <| .take 6 <| .take 7 <| .eff 5 <| .take 8 <| .eff 9 <| .done })] }

theorem Try.ok59 : okCode Try.fx59 (Try.f59.body.getD .skip) = true := by kernel_rfl

/-- (*ganglion/net.heap[ganglion/net.alarm]).push -/
def Try.fx69 : Fx := { n := 79, keep := [0, 1, 3, 4, 45], plans := [(1, { ex := [6], mu := [7, 10], p := .take 0 <| .take 1 <| .take 2 <| .take 3 <| .take 4 <| .take 5 <| .eff 6 <| .eff 7 <| .take 8 <| .take 9 <| .eff 10 <| .done }), (3, { ex := [], mu := [23], p := .take 0 <| .take 1 <| .take 2 <| .take 3 <| .take 4 <| .take 5 <| .take 6 <| .take 7 <| .take 8 <| .take 9 <| .take 10 <| .take 11 <| .take 12 <| .take 13 <| .take 14 <| .take 15 <| .take 16 <| .take 17 <| .take 18 <| .take 19 <| .take 20 <| .take 21 <| .take 22 <| .eff 23 <| .take 24 <| .done }), (5, { ex := [], mu := [29, 31], p := .take 0 <| .take 1 <| .take 2 <| .take 3 <| .take 4 <| .take 5 <| .take 6 <| .take 7 <| .take 8 <| .take 9 <| .take 10 <| .take 11 <| .take 12 <| .take 13 <| .take 14 <| .take 15 <| .take 16 <| .take 17 <| .take 18 <| .take 19 <| .take 20 <| .take 21 <| .take 22 <| .take 23 <| .take 24 <| .take 25 <| .take 26 <| .take 27 <| .take 28 <| .eff 29 <| .take 30 <| .eff 31 <| .done })] }

theorem Try.ok69 : okCode Try.fx69 (Try.f69.body.getD .skip) = true := by kernel_rfl

/-- (*ganglion/net.heap[ganglion/net.alarm]).pop -/
def Try.fx70 : Fx := { n := 108, keep := [0, 2, 3, 4, 5, 6, 7, 54, 75, 79], plans := [(3, { ex := [], mu := [12], p := .take 0 <| .take 1 <| .take 2 <| .take 3 <| .take 4 <| .take 5 <| .take 6 <| .take 7 <| .take 8 <| .take 9 <| .take 10 <| .take 11 <| .eff 12 <| .done }), (10, { ex := [], mu := [18], p := .take 0 <| .take 1 <| .take 2 <| .take 3 <| .take 4 <| .take 5 <| .take 6 <| .take 7 <| .take 8 <| .take 9 <| .take 10 <| .take 11 <| .take 12 <| .take 13 <| .take 14 <| .take 15 <| .take 16 <| .take 17 <| .eff 18 <| .done }), (14, { ex := [], mu := [25, 27], p := .take 0 <| .take 1 <| .take 2 <| .take 3 <| .take 4 <| .take 5 <| .take 6 <| .take 7 <| .take 8 <| .take 9 <| .take 10 <| .take 11 <| .take 12 <| .take 13 <| .take 14 <| .take 15 <| .take 16 <| .take 17 <| .take 18 <| .take 19 <| .take 20 <| .take 21 <| .take 22 <| .take 23 <| .take 24 <| .eff 25 <| .take 26 <| .eff 27 <| .done })] }

theorem Try.ok70 : okCode Try.fx70 (Try.f70.body.getD .skip) = true := by kernel_rfl

/-- ganglion/net.Reach$1 -/
def Try.fx77 : Fx := { n := 8, keep := [0, 1, 3], plans := [] }

theorem Try.ok77 : okCode Try.fx77 (Try.f77.body.getD .skip) = true := by kernel_rfl

/-- ganglion/net.Reach$2 -/
def Try.fx78 : Fx := { n := 28, keep := [0, 1, 2, 3, 6, 9, 14, 15, 16, 17, 22], plans := [] }

theorem Try.ok78 : okCode Try.fx78 (Try.f78.body.getD .skip) = true := by kernel_rfl

/-- ganglion/neuron.within -/
def Try.fx95 : Fx := { n := 15, keep := [0, 1, 2, 6], plans := [] }

theorem Try.ok95 : okCode Try.fx95 (Try.f95.body.getD .skip) = true := by kernel_rfl

/-- ganglion/net.ordered -/
def Try.fx97 : Fx := { n := 72, keep := [0, 1, 2, 3, 6, 7, 8, 11, 12, 13, 14, 15, 19, 35], plans := [(8, { ex := [], mu := [], p := .take 0 <| .take 1 <| .take 2 <| .take 3 <| .take 4 <| .take 5 <| .take 6 <| .take 7 <| .take 8 <| .take 9 <| .take 10 <| .take 11 <| .take 12 <| .take 13 <| .take 14 <| .take 15 <| .take 16 <| .take 17 <| .take 18 <| .take 19 <| .take 20 <| .take 21 <| .take 22 <| .take 23 <| .take 24 <| .take 25 <| .take 26 <| .take 27 <| .take 28 <| .take 29 <| .take 30 <| .take 31 <| .take 32 <| .take 33 <| .take 34 <| .take 35 <| .done })] }

theorem Try.ok97 : okCode Try.fx97 (Try.f97.body.getD .skip) = true := by kernel_rfl

/-- slices.Clone[[]ganglion/api.Params,ganglion/api.Params] -/
def Try.fx98 : Fx := { n := 8, keep := [0, 2, 4], plans := [] }

theorem Try.ok98 : okCode Try.fx98 (Try.f98.body.getD .skip) = true := by kernel_rfl

/-- ganglion/neuron.leaks$2 -/
def Try.fx113 : Fx := { n := 17, keep := [0, 1, 2, 4, 6], plans := [] }

theorem Try.ok113 : okCode Try.fx113 (Try.f113.body.getD .skip) = true := by kernel_rfl

/-- ganglion/neuron.newCell -/
def Try.fx115 : Fx := { n := 27, keep := [0, 1, 2, 3, 4, 5, 6, 7, 13], plans := [] }

theorem Try.ok115 : okCode Try.fx115 (Try.f115.body.getD .skip) = true := by kernel_rfl

/-- ganglion/neuron.bounded -/
def Try.fx132 : Fx := { n := 12, keep := [0, 1, 2, 6], plans := [] }

theorem Try.ok132 : okCode Try.fx132 (Try.f132.body.getD .skip) = true := by kernel_rfl

/-- (*ganglion/neuron.cell).spikes -/
def Try.fx134 : Fx := { n := 19, keep := [0, 1, 2, 4, 5, 6, 7, 8, 9, 10, 13], plans := [] }

theorem Try.ok134 : okCode Try.fx134 (Try.f134.body.getD .skip) = true := by kernel_rfl

end Go.Proofs
