/- The functions' frames and plans: printed by wip/gen/fx.py. -/

import Derived.Test.YtbnipfgbfnhibaaNetKnownLay

namespace Go.Proofs

open Go Go.Vx

/-- ganglion/net.Check -/
def Try.fx19 : Fx := { n := 81, keep := [0, 1, 2, 4, 5, 7, 8, 13, 29, 34, 35, 36, 37, 43, 47, 48, 49, 50, 79], plans := [] }

theorem Try.ok19 : okCode Try.fx19 (Try.f19.body.getD .skip) = true := by kernel_rfl

/-- ganglion/net.Driven -/
def Try.fx26 : Fx := { n := 170, keep := [0, 1, 2, 3, 6, 7, 8, 9, 10, 11, 12, 13, 14, 15, 16, 17, 19, 25, 37, 38, 39, 40, 49, 78, 94, 107, 127, 134, 147, 148, 149, 150, 162], plans := [(12, { ex := [], mu := [7], p := .take 0 <| .take 1 <| .take 2 <| .take 3 <| .take 4 <| .take 5 <| .take 6 <| .eff 7 <| .done }), (13, { ex := [6], mu := [7, 10], p := .take 0 <| .take 1 <| .take 2 <| .take 3 <| .take 4 <| .take 5 <| .eff 6 <| .eff 7 <| .take 8 <| .take 9 <| .eff 10 <| .done })] }

theorem Try.ok26 : okCode Try.fx26 (Try.f26.body.getD .skip) = true := by kernel_rfl

/-- ganglion/net.Renumber -/
def Try.fx28 : Fx := { n := 111, keep := [0, 1, 2, 4, 5, 6, 7, 8, 9, 10, 11, 12, 15, 20, 40, 41, 42, 43, 47, 55, 76, 77, 78, 98], plans := [(6, { ex := [7, 9, 2], mu := [10], p := .take 0 <| .take 1 <| .take 3 <| .take 4 <| .take 5 <| .take 6 <| .fork3 2 7 9 (.fork 7 9 (.take 8 <| .eff 9 <| .eff 10 <| .done) (.eff 7 <| .take 8 <| .eff 10 <| .done)) (.fork 2 9 (.take 8 <| .eff 9 <| .eff 10 <| .done) (.eff 2 <| .take 8 <| .eff 10 <| .done)) (.fork 2 7 (.eff 7 <| .take 8 <| .eff 10 <| .done) (.eff 2 <| .take 8 <| .eff 10 <| .done)) }), (15, { ex := [11], mu := [13], p := .take 0 <| .take 1 <| .take 2 <| .take 3 <| .take 4 <| .take 5 <| .take 6 <| .take 7 <| .take 8 <| .take 9 <| .take 10 <| .eff 11 <| .take 12 <| .eff 13 <| .done })] }

theorem Try.ok28 : okCode Try.fx28 (Try.f28.body.getD .skip) = true := by kernel_rfl

/-- (*ganglion/net.Sim).Image -/
def Try.fx42 : Fx := { n := 34, keep := [0, 2, 3, 4, 5, 8, 20, 21], plans := [(3, { ex := [8, 10], mu := [11], p := .take 0 <| .take 1 <| .take 2 <| .take 3 <| .take 4 <| .take 5 <| .take 6 <| .take 7 <| .fork 8 10 (.take 9 <| .eff 10 <| .eff 11 <| .done) (.eff 8 <| .take 9 <| .eff 11 <| .done) }), (7, { ex := [4, 5, 6], mu := [7, 9], p := .take 0 <| .take 1 <| .take 2 <| .take 3 <| .eff 4 <| .eff 5 <| .eff 6 <| .eff 7 <| .take 8 <| .eff 9 <| .done })] }

theorem Try.ok42 : okCode Try.fx42 (Try.f42.body.getD .skip) = true := by kernel_rfl

/-- ganglion/ganglionlaw02.equal -/
def Try.fx43 : Fx := { n := 26, keep := [0, 1, 4, 5, 10, 14, 25], plans := [(6, { ex := [], mu := [], p := .take 0 <| .take 1 <| .take 2 <| .take 3 <| .take 4 <| .take 5 <| .take 6 <| .take 7 <| .take 8 <| .done })] }

theorem Try.ok43 : okCode Try.fx43 (Try.f43.body.getD .skip) = true := by kernel_rfl

/-- (*ganglion/net.Sim).Now -/
def Try.fx50 : Fx := { n := 10, keep := [0, 2, 5], plans := [] }

theorem Try.ok50 : okCode Try.fx50 (Try.f50.body.getD .skip) = true := by kernel_rfl

/-- (*ganglion/net.Sim).Copy -/
def Try.fx52 : Fx := { n := 32, keep := [0, 2, 3, 4, 5, 8, 21, 22, 23], plans := [] }

theorem Try.ok52 : okCode Try.fx52 (Try.f52.body.getD .skip) = true := by kernel_rfl

/-- ganglion/net.within -/
def Try.fx55 : Fx := { n := 15, keep := [0, 1, 2, 6], plans := [] }

theorem Try.ok55 : okCode Try.fx55 (Try.f55.body.getD .skip) = true := by kernel_rfl

/-- ganglion/net.Driven$1 -/
def Try.fx67 : Fx := { n := 24, keep := [0, 1, 2, 3, 4], plans := [] }

theorem Try.ok67 : okCode Try.fx67 (Try.f67.body.getD .skip) = true := by kernel_rfl

/-- (*ganglion/net.cell).expect -/
def Try.fx68 : Fx := { n := 49, keep := [0, 2, 25, 39], plans := [(1, { ex := [], mu := [], p := .take 0 <| .take 1 <| .take 2 <| .take 3 <| .take 4 <| .take 5 <| .take 6 <| .take 7 <| .take 8 <| .take 9 <| .take 10 <| .take 11 <| .take 12 <| .take 13 <| .take 14 <| .take 15 <| .take 16 <| .take 17 <| .take 18 <| .done }), (2, { ex := [], mu := [8], p := .take 0 <| .take 1 <| .take 2 <| .take 3 <| .take 4 <| .take 5 <| .take 6 <| .take 7 <| .eff 8 <| .take 9 <| .take 10 <| .take 11 <| .take 12 <| .take 13 <| .done })] }

theorem Try.ok68 : okCode Try.fx68 (Try.f68.body.getD .skip) = true := by kernel_rfl

/-- (*ganglion/net.course).look -/
def Try.fx71 : Fx := { n := 96, keep := [0, 1, 3, 4, 5, 6, 7, 8, 48, 83], plans := [(1, { ex := [], mu := [], p := .take 0 <| .take 1 <| .take 2 <| .take 3 <| .take 4 <| .take 5 <| .take 6 <| .take 7 <| .done }), (2, { ex := [], mu := [], p := .take 0 <| .take 1 <| .take 2 <| .take 3 <| .take 4 <| .take 5 <| .take 6 <| .take 7 <| .take 8 <| .take 9 <| .take 10 <| .take 11 <| .take 12 <| .take 13 <| .take 14 <| .done }), (3, { ex := [], mu := [], p := .take 0 <| .take 1 <| .take 2 <| .take 3 <| .take 4 <| .take 5 <| .take 6 <| .take 7 <| .take 8 <| .take 9 <| .take 10 <| .take 11 <| .take 12 <| .take 13 <| .take 14 <| .take 15 <| .take 16 <| .take 17 <| .take 18 <| .take 19 <| .done }), (7, { ex := [], mu := [10, 17], p := .take 0 <| .take 1 <| .take 2 <| .take 3 <| .take 4 <| .take 5 <| .take 6 <| .take 7 <| .take 8 <| .take 9 <| .eff 10 <| .take 11 <| .take 12 <| .take 13 <| .take 14 <| .take 15 <| .take 16 <| .eff 17 <| .take 18 <| .done }), (11, { ex := [], mu := [10], p := .take 0 <| .take 1 <| .take 2 <| .take 3 <| .take 4 <| .take 5 <| .take 6 <| .take 7 <| .take 8 <| .take 9 <| .eff 10 <| .done })] }

theorem Try.ok71 : okCode Try.fx71 (Try.f71.body.getD .skip) = true := by kernel_rfl

/-- slices.Clone[[]ganglion/api.Synapse,ganglion/api.Synapse] -/
def Try.fx74 : Fx := { n := 8, keep := [0, 2, 4], plans := [] }

theorem Try.ok74 : okCode Try.fx74 (Try.f74.body.getD .skip) = true := by kernel_rfl

/-- slices.Concat[[]ganglion/api.Synapse,ganglion/api.Synapse] -/
def Try.fx80 : Fx := { n := 36, keep := [0, 2, 3, 5, 6, 8, 9, 10, 11, 12, 20, 25, 26, 27, 28], plans := [] }

theorem Try.ok80 : okCode Try.fx80 (Try.f80.body.getD .skip) = true := by kernel_rfl

/-- (*ganglion/net.Sim).row -/
def Try.fx86 : Fx := { n := 17, keep := [0, 1, 4], plans := [(1, { ex := [], mu := [], p := .take 0 <| .take 1 <| .take 2 <| .take 3 <| .take 4 <| .take 5 <| .take 6 <| .take 7 <| .take 8 <| .take 9 <| .take 10 <| .take 11 <| .take 12 <| .done })] }

theorem Try.ok86 : okCode Try.fx86 (Try.f86.body.getD .skip) = true := by kernel_rfl

/-- slices.Clone[[]ganglion/api.State,ganglion/api.State] -/
def Try.fx91 : Fx := { n := 8, keep := [0, 2, 4], plans := [] }

theorem Try.ok91 : okCode Try.fx91 (Try.f91.body.getD .skip) = true := by kernel_rfl

/-- (ganglion/net.wires).from -/
def Try.fx100 : Fx := { n := 8, keep := [0, 1, 2, 3, 4, 5, 6], plans := [] }

theorem Try.ok100 : okCode Try.fx100 (Try.f100.body.getD .skip) = true := by kernel_rfl

/-- (*ganglion/net.course).add -/
def Try.fx106 : Fx := { n := 53, keep := [0, 1, 2, 3, 9, 16, 35], plans := [] }

theorem Try.ok106 : okCode Try.fx106 (Try.f106.body.getD .skip) = true := by kernel_rfl

/-- slices.Grow[[]ganglion/api.Synapse,ganglion/api.Synapse] -/
def Try.fx109 : Fx := { n := 27, keep := [0, 1, 4, 6, 16], plans := [] }

theorem Try.ok109 : okCode Try.fx109 (Try.f109.body.getD .skip) = true := by kernel_rfl

/-- ganglion/neuron.leaks$3 -/
def Try.fx114 : Fx := { n := 12, keep := [0, 1, 2, 4], plans := [] }

theorem Try.ok114 : okCode Try.fx114 (Try.f114.body.getD .skip) = true := by kernel_rfl

end Go.Proofs
