/- The functions' frames and plans: printed by wip/gen/fx.py. -/

import Derived.Test.YtbnipfgbfnhibaaNetKnownLay

namespace Go.Proofs

open Go Go.Vx

/-- ganglion/net.Run -/
def Try.fx22 : Fx := { n := 53, keep := [0, 1, 2, 3, 6, 7, 8, 9, 10, 11, 12, 14, 20, 27, 28, 29, 35, 36, 37, 38, 50], plans := [] }

theorem Try.ok22 : okCode Try.fx22 (Try.f22.body.getD .skip) = true := by kernel_rfl

/-- (*ganglion/net.Sim).Step -/
def Try.fx40 : Fx := { n := 29, keep := [0, 1, 4, 5, 6, 7, 11, 24], plans := [] }

theorem Try.ok40 : okCode Try.fx40 (Try.f40.body.getD .skip) = true := by kernel_rfl

/-- ganglion/ganglionlaw02.E -/
def Try.fx51 : Fx := { n := 10, keep := [0, 1], plans := [] }

theorem Try.ok51 : okCode Try.fx51 (Try.f51.body.getD .skip) = true := by kernel_rfl

/-- ganglion/net.prepared -/
def Try.fx58 : Fx := { n := 23, keep := [0, 1, 2, 3, 4, 8, 9, 13, 18], plans := [] }

theorem Try.ok58 : okCode Try.fx58 (Try.f58.body.getD .skip) = true := by kernel_rfl

/-- (*ganglion/net.Sim).step -/
def Try.fx60 : Fx := { n := 85, keep := [0, 1, 2, 4, 5, 6, 7, 8, 9, 10, 12, 15, 16, 17, 18, 50, 63, 64], plans := [(6, { ex := [21], mu := [16, 22], p := .take 0 <| .take 1 <| .take 2 <| .take 3 <| .take 4 <| .take 5 <| .take 6 <| .take 7 <| .take 8 <| .take 9 <| .take 10 <| .take 11 <| .take 12 <| .take 13 <| .take 14 <| .take 15 <| .fork 16 21 (.take 17 <| .take 18 <| .take 19 <| .take 20 <| .eff 21 <| .eff 22 <| .take 23 <| .take 24 <| .done) (.eff 16 <| .take 17 <| .take 18 <| .take 19 <| .take 20 <| .eff 22 <| .take 23 <| .take 24 <| .done) }), (7, { ex := [], mu := [7], p := .take 0 <| .take 1 <| .take 2 <| .take 3 <| .take 4 <| .take 5 <| .take 6 <| .eff 7 <| .done }), (14, { ex := [3], mu := [12], p := .take 0 <| .take 1 <| .take 2 <| .take 4 <| .take 5 <| .take 8 <| .take 9 <| .eff 3 <| .take 6 <| .take 7 <| .take 10 <| .take 11 <| .eff 12 <| .done })] }

theorem Try.ok60 : okCode Try.fx60 (Try.f60.body.getD .skip) = true := by kernel_rfl

/-- (*ganglion/net.taker).at -/
def Try.fx61 : Fx := { n := 42, keep := [0, 1, 4, 5, 22], plans := [] }

theorem Try.ok61 : okCode Try.fx61 (Try.f61.body.getD .skip) = true := by kernel_rfl

/-- slices.ContainsFunc[[]int,int] -/
def Try.fx76 : Fx := { n := 9, keep := [0, 1, 4], plans := [] }

theorem Try.ok76 : okCode Try.fx76 (Try.f76.body.getD .skip) = true := by kernel_rfl

/-- slices.Concat[[]ganglion/api.Params,ganglion/api.Params] -/
def Try.fx79 : Fx := { n := 36, keep := [0, 2, 3, 5, 6, 8, 9, 10, 11, 12, 20, 25, 26, 27, 28], plans := [] }

theorem Try.ok79 : okCode Try.fx79 (Try.f79.body.getD .skip) = true := by kernel_rfl

/-- ganglion/neuron.Valid -/
def Try.fx83 : Fx := { n := 25, keep := [0, 1, 2, 3, 4, 5, 9, 24], plans := [] }

theorem Try.ok83 : okCode Try.fx83 (Try.f83.body.getD .skip) = true := by kernel_rfl

/-- slices.Clone[[]int,int] -/
def Try.fx92 : Fx := { n := 8, keep := [0, 2, 4], plans := [] }

theorem Try.ok92 : okCode Try.fx92 (Try.f92.body.getD .skip) = true := by kernel_rfl

/-- ganglion/neuron.leaks -/
def Try.fx94 : Fx := { n := 15, keep := [0, 2, 3, 4, 5, 8, 11], plans := [] }

theorem Try.ok94 : okCode Try.fx94 (Try.f94.body.getD .skip) = true := by kernel_rfl

/-- ganglion/neuron.Tick -/
def Try.fx99 : Fx := { n := 30, keep := [0, 1, 2, 3, 4, 6, 7, 8, 9, 10, 11, 19], plans := [] }

theorem Try.ok99 : okCode Try.fx99 (Try.f99.body.getD .skip) = true := by kernel_rfl

/-- ganglion/neuron.Next -/
def Try.fx102 : Fx := { n := 34, keep := [0, 1, 2, 3, 4, 5, 6, 7, 8, 9, 17, 26, 33], plans := [(9, { ex := [], mu := [], p := .take 0 <| .take 1 <| .take 2 <| .take 3 <| .take 4 <| .take 5 <| .done })] }

theorem Try.ok102 : okCode Try.fx102 (Try.f102.body.getD .skip) = true := by kernel_rfl

/-- (*ganglion/net.cell).rest -/
def Try.fx103 : Fx := { n := 57, keep := [0, 1, 4, 6, 13, 40], plans := [(2, { ex := [14], mu := [9, 16], p := .take 0 <| .take 1 <| .take 2 <| .take 3 <| .take 4 <| .take 5 <| .take 6 <| .take 7 <| .take 8 <| .fork 9 14 (.take 10 <| .take 11 <| .take 12 <| .take 13 <| .eff 14 <| .take 15 <| .eff 16 <| .take 17 <| .done) (.eff 9 <| .take 10 <| .take 11 <| .take 12 <| .take 13 <| .take 15 <| .eff 16 <| .take 17 <| .done) }), (3, { ex := [], mu := [], p := .take 0 <| .take 1 <| .take 2 <| .take 3 <| .take 4 <| .take 5 <| .done })] }

theorem Try.ok103 : okCode Try.fx103 (Try.f103.body.getD .skip) = true := by kernel_rfl

/-- (ganglion/net.wires).from$1$1 -/
def Try.fx118 : Fx := { n := 20, keep := [0, 1, 2, 4, 6, 9, 10, 11, 12, 18], plans := [] }

theorem Try.ok118 : okCode Try.fx118 (Try.f118.body.getD .skip) = true := by kernel_rfl

end Go.Proofs
