import Derived.Test.YtlbekjokdlkghaaGreatChipMovesLay
import Derived.Test.YtlbekjokdlkghaaGreatChipMovesFx2
import Derived.Test.YtlbekjokdlkghaaGreatChipMovesGa
set_option linter.unusedSimpArgs false
section
namespace Go.Proofs
open Go Go.Vx
def fx8:Fx:={n:=174,keep:=[0,1,2,3,6,7,8,9,10,11,12,13,14,15,16,17,18,19,20,21,22,23,36,72,83,88,112,119,123,151,158,172],plans:=[]}
theorem ok8:bQ3 fx8 (Tryz.f8.body.getD .skip)=true:=by kernel_rfl
def mP4:Fx:={n:=56,keep:=[0,1,2],plans:=[]}
theorem ok11:bQ3 mP4 (Tryz.f11.body.getD .skip)=true:=by kernel_rfl
def mP1:Fx:={n:=70,keep:=[0,1,2,3,4,5,6,7,8,9,10,11,52,53,54,55,56],plans:=[(2,{ex:=[21,10],mu:=[],p:=tk [0,1,2,3,4,5,6,7,8,9,11,12,13,14,15,16,17,18,19,20]<|.fork 10 21 (.take 22<| .eff 21<| .take 23<| .done) (.eff 10<| tk [22,23]<|.done)})]}
theorem ok17:bQ3 mP1 (Tryz.f17.body.getD .skip)=true:=by kernel_rfl
def mB7:Fx:={n:=199,keep:=[0,1,2,4,5,6,7,8,9,10,12,13,14,15,16,17,18,22,27,55,56,57,58,88,89,90,103,116,117,118],plans:=[(7,{ex:=[12,14,2,7],mu:=[15],p:=tk [0,1,3,4,5,6,9,10,11]<|.fork3 2 12 14 (.fork3 7 12 14 (.take 8<| .fork 12 14 (.take 13<| .eff 14<| .eff 15<| .done) (.eff 12<| .take 13<| .eff 15<| .done)) (.fork 7 14 (tk [8,13]<|.eff 14<| .eff 15<| .done) (.eff 7<| tk [8,13]<|.eff 15<| .done)) (.fork 7 12 (.take 8<| .eff 12<| .take 13<| .eff 15<| .done) (.eff 7<| tk [8,13]<|.eff 15<| .done))) (.fork 2 14 (.fork 7 14 (tk [8,13]<|.eff 14<| .eff 15<| .done) (.eff 7<| tk [8,13]<|.eff 15<| .done)) (.eff 2<| .eff 7<| tk [8,13]<|.eff 15<| .done)) (.fork 2 12 (.fork 7 12 (.take 8<| .eff 12<| .take 13<| .eff 15<| .done) (.eff 7<| tk [8,13]<|.eff 15<| .done)) (.eff 2<| .eff 7<| tk [8,13]<|.eff 15<| .done))}),(8,{ex:=[7,3],mu:=[],p:=tk [0,1,2,4,5,6]<|.fork 3 7 (.take 8<| .eff 7<| .take 9<| .done) (.eff 3<| tk [8,9]<|.done)}),(12,{ex:=[10,18,23,25],mu:=[],p:=tk [0,1,2,3,4,5,6,7,8,9,11,12,14,15,16,17,19,20]<|.fork 10 18 (.take 13<| .eff 18<| tk [21,22]<|.eff 23<| .take 24<| .eff 25<| .done) (.take 21<| .eff 10<| tk [13,22]<|.eff 23<| .take 24<| .eff 25<| .done)}),(18,{ex:=[],mu:=[10],p:=tk [0,1,2,3,4,5,6,7,8,9]<|.eff 10<| .take 11<| .done}),(26,{ex:=[],mu:=[12],p:=tk [0,1,2,3,4,5,6,7,8,9,10,11]<|.eff 12<| .take 13<| .done}),(28,{ex:=[],mu:=[15],p:=tk [0,1,2,3,4,5,6,7,8,9,10,11,12,13,14]<|.eff 15<| .take 16<| .done}),(29,{ex:=[],mu:=[13],p:=tk [0,1,2,3,4,5,6,7,8,9,10,11,12]<|.eff 13<| .done}),(30,{ex:=[],mu:=[17],p:=tk [0,1,2,3,4,5,6,7,8,9,10,11,12,13,14,15,16]<|.eff 17<| .done})]}
theorem ok27:bQ3 mB7 (Tryz.f27.body.getD .skip)=true:=by kernel_rfl
def mK1:Fx:={n:=250,keep:=[0,1,2,3,4,6,7,8,9,10,11,12,13,15,16,17,18,19,20,21,23,24,25,26,27,30,39,58,59,60,61,68,69,70,71,99,100,101,102,160,161,162,163,167,168,169,170,187,188,189,190,196,202,217,218,219,220,226],plans:=[(4,{ex:=[3],mu:=[10],p:=tk [0,1,2,4,5,7,8]<|.eff 3<| tk [6,9]<|.eff 10<| .take 11<| .done}),(13,{ex:=[14,15],mu:=[16],p:=tk [0,1,2,3,4,5,6,7,8,9,10,11,12,13]<|.eff 14<| .eff 15<| .eff 16<| .done}),(20,{ex:=[],mu:=[13],p:=tk [0,1,2,3,4,5,6,7,8,9,10,11,12]<|.eff 13<| .take 14<| .done}),(21,{ex:=[18,19],mu:=[22],p:=tk [0,1,2,3,4,5,6,7,8,9,10,11,12,13,14,15,16,17]<|.eff 18<| .eff 19<| tk [20,21]<|.eff 22<| .done}),(31,{ex:=[9,10],mu:=[12],p:=tk [0,1,2,3,4,5,6,7,8]<|.eff 9<| .eff 10<| .take 11<| .eff 12<| .done}),(50,{ex:=[7],mu:=[8,12],p:=tk [0,1,2,3,4,5,6]<|.eff 7<| .eff 8<| tk [9,10,11]<|.eff 12<| .done})]}
theorem mY3:bQ3 mK1 (Tryz.f32.body.getD .skip)=true:=by kernel_rfl
def mH9:Fx:={n:=77,keep:=[0,1,3,4,6,7,8,9,10,13,24,36,37,38,39,52,53,54,55],plans:=[(3,{ex:=[],mu:=[5],p:=tk [0,1,2,3,4]<|.eff 5<| tk [6,7,8,9,10]<|.done}),(14,{ex:=[],mu:=[16],p:=tk [0,1,2,3,4,5,6,7,8,9,10,11,12,13,14,15]<|.eff 16<| .done})]}
theorem ok36:bQ3 mH9 (Tryz.f36.body.getD .skip)=true:=by kernel_rfl
def mH6:Fx:={n:=3,keep:=[0],plans:=[]}
theorem ok45:bQ3 mH6 (Tryz.f45.body.getD .skip)=true:=by kernel_rfl
def mK0:Fx:={n:=12,keep:=[0,1,4],plans:=[]}
theorem mY2:bQ3 mK0 (Tryz.f50.body.getD .skip)=true:=by kernel_rfl
def lY1:Fx:={n:=9,keep:=[0,1,4],plans:=[]}
theorem lN9:bQ3 lY1 (Tryz.f51.body.getD .skip)=true:=by kernel_rfl
def mF9:Fx:={n:=14,keep:=[0,1,2,3,4,6,7,10],plans:=[]}
theorem ok61:bQ3 mF9 (Tryz.f61.body.getD .skip)=true:=by kernel_rfl
def mF8:Fx:={n:=62,keep:=[0,1,2,3,4,5,6,8,9,12,13,38,39,40,41],plans:=[(3,{ex:=[5,7,9],mu:=[],p:=tk [0,1,2,3,4]<|.fork 5 7 (.take 6<| .eff 7<| .take 8<| .eff 9<| .done) (.take 8<| .eff 5<| .take 6<| .eff 9<| .done)}),(4,{ex:=[],mu:=[14],p:=tk [0,1,2,3,4,5,6,7,8,9,10,11,12,13]<|.eff 14<| .done}),(9,{ex:=[],mu:=[9],p:=tk [0,1,2,3,4,5,6,7,8]<|.eff 9<| .done})]}
theorem ok62:bQ3 mF8 (Tryz.f62.body.getD .skip)=true:=by kernel_rfl
def mF6:Fx:={n:=11,keep:=[0,1,2,4],plans:=[]}
theorem ok64:bQ3 mF6 (Tryz.f64.body.getD .skip)=true:=by kernel_rfl
def mG9:Fx:={n:=38,keep:=[0,1,4,5,7,26],plans:=[]}
theorem ok72:bQ3 mG9 (Tryz.f72.body.getD .skip)=true:=by kernel_rfl
def mJ7:Fx:={n:=8,keep:=[0,2,4],plans:=[]}
theorem mW9:bQ3 mJ7 (Tryz.f80.body.getD .skip)=true:=by kernel_rfl
def mG4:Fx:={n:=32,keep:=[0,1,2,3,4,18,19],plans:=[(2,{ex:=[2,6],mu:=[8],p:=tk [0,1,3,4,5]<|.fork 2 6 (.eff 6<| .take 7<| .eff 8<| .take 9<| .done) (.eff 2<| .take 7<| .eff 8<| .take 9<| .done)}),(6,{ex:=[],mu:=[5,9],p:=tk [0,1,2,3,4,6,7]<|.eff 5<| .take 8<| .eff 9<| .done})]}
theorem ok86:bQ3 mG4 (Tryz.f86.body.getD .skip)=true:=by kernel_rfl
def mG2:Fx:={n:=42,keep:=[0,1,4,5,22],plans:=[]}
theorem ok88:bQ3 mG2 (Tryz.f88.body.getD .skip)=true:=by kernel_rfl
def mJ4:Fx:={n:=13,keep:=[0,2],plans:=[]}
theorem mW6:bQ3 mJ4 (Tryz.f89.body.getD .skip)=true:=by kernel_rfl
def lD5:Fx:={n:=65,keep:=[0,1,2,6,7,9,15,27,28,29,30],plans:=[(7,{ex:=[6],mu:=[7,9],p:=tk [0,1,2,3,4,5]<|.eff 6<| .eff 7<| .take 8<| .eff 9<| .done}),(11,{ex:=[],mu:=[9,14],p:=tk [0,1,2,3,4,5,6,7,8]<|.eff 9<| tk [10,11,12,13]<|.eff 14<| .done})]}
theorem mZ6:bQ3 lD5 (Tryz.f112.body.getD .skip)=true:=by kernel_rfl
def lD4:Fx:={n:=48,keep:=[0,1,2,3,6,7,8,9,10,17],plans:=[(4,{ex:=[6,7,2],mu:=[5,8,9],p:=tk [0,1,3,4]<|.fork3 2 6 7 (.fork3 5 6 7 (.fork 6 7 (.eff 7<| .eff 8<| .eff 9<| .done) (.eff 6<| .eff 8<| .eff 9<| .done)) (.fork 5 7 (.eff 7<| .eff 8<| .eff 9<| .done) (.eff 5<| .eff 8<| .eff 9<| .done)) (.fork 5 6 (.eff 6<| .eff 8<| .eff 9<| .done) (.eff 5<| .eff 8<| .eff 9<| .done))) (.fork 2 7 (.fork 5 7 (.eff 7<| .eff 8<| .eff 9<| .done) (.eff 5<| .eff 8<| .eff 9<| .done)) (.eff 2<| .eff 5<| .eff 8<| .eff 9<| .done)) (.fork 2 6 (.fork 5 6 (.eff 6<| .eff 8<| .eff 9<| .done) (.eff 5<| .eff 8<| .eff 9<| .done)) (.eff 2<| .eff 5<| .eff 8<| .eff 9<| .done))})]}
theorem mZ5:bQ3 lD4 (Tryz.f114.body.getD .skip)=true:=by kernel_rfl
def lD3:Fx:={n:=24,keep:=[0,1,2,23],plans:=[]}
theorem mZ4:bQ3 lD3 (Tryz.f115.body.getD .skip)=true:=by kernel_rfl
def kL7:Fx:={n:=9,keep:=[0,1,4],plans:=[]}
theorem lV1:bQ3 kL7 (Tryz.f119.body.getD .skip)=true:=by kernel_rfl
def lD0:Fx:={n:=9,keep:=[0,2],plans:=[]}
theorem mZ1:bQ3 lD0 (Tryz.f122.body.getD .skip)=true:=by kernel_rfl
def lP4:Fx:={n:=14,keep:=[0,1,2,4],plans:=[(1,{ex:=[],mu:=[9],p:=tk [0,1,2,3,4,5,6,7,8]<|.eff 9<| .done})]}
theorem mX5:bQ3 lP4 (Tryz.f129.body.getD .skip)=true:=by kernel_rfl
def lB7:Fx:={n:=30,keep:=[0,1,2,3,4,6,7,8,9,10,11,19],plans:=[]}
theorem mQ8:bQ3 lB7 (Tryz.f138.body.getD .skip)=true:=by kernel_rfl
def lB4:Fx:={n:=10,keep:=[0,1,3],plans:=[]}
theorem mQ5:bQ3 lB4 (Tryz.f141.body.getD .skip)=true:=by kernel_rfl
def lB0:Fx:={n:=9,keep:=[0,1,4],plans:=[]}
theorem mQ1:bQ3 lB0 (Tryz.f145.body.getD .skip)=true:=by kernel_rfl
def lH9:Fx:={n:=6,keep:=[0,1,2,3,4],plans:=[]}
theorem mQ0:bQ3 lH9 (Tryz.f146.body.getD .skip)=true:=by kernel_rfl
def lH6:Fx:={n:=9,keep:=[0,1,4],plans:=[]}
theorem lL7:bQ3 lH6 (Tryz.f171.body.getD .skip)=true:=by kernel_rfl
def lH2:Fx:={n:=61,keep:=[0,2,3,4,5,8,13,25,32,44],plans:=[(6,{ex:=[],mu:=[],p:=tk [0,1,2,3,4,5,6,7,8,9]<|.done}),(11,{ex:=[],mu:=[],p:=tk [0,1,2,3,4,5,6,7,8,9]<|.done})]}
theorem lL3:bQ3 lH2 (Tryz.f177.body.getD .skip)=true:=by kernel_rfl
def kL4:Fx:={n:=31,keep:=[0,1,3,4,5,7,8,9,10,15,29],plans:=[]}
theorem lK8:bQ3 kL4 (Tryz.f178.body.getD .skip)=true:=by kernel_rfl
def kW6:Fx:={n:=19,keep:=[0,1,4,5,7,8,9,16],plans:=[]}
theorem kR1:bQ3 kW6 (Tryz.f182.body.getD .skip)=true:=by kernel_rfl
def lF8:Fx:={n:=15,keep:=[0,2,3,4,5,8,11],plans:=[]}
theorem lS9:bQ3 lF8 (Tryz.f187.body.getD .skip)=true:=by kernel_rfl
def lF6:Fx:={n:=27,keep:=[0,1,2,3,4,5,6,7,13],plans:=[]}
theorem lS7:bQ3 lF6 (Tryz.f189.body.getD .skip)=true:=by kernel_rfl
def kW5:Fx:={n:=93,keep:=[0,1,4,5,11,61,81],plans:=[(4,{ex:=[13,21],mu:=[28],p:=tk [0,1,2,3,4,5,6,7,8,9,10,11,12,14,15,16,17,18,20,23,24,25,26,27]<|.eff 13<| .take 19<| .eff 21<| .take 22<| .eff 28<| .take 29<| .done}),(8,{ex:=[],mu:=[14],p:=tk [0,1,2,3,4,5,6,7,8,9,10,11,12,13]<|.eff 14<| .done})]}
theorem kR0:bQ3 kW5 (Tryz.f190.body.getD .skip)=true:=by kernel_rfl
def lF5:Fx:={n:=34,keep:=[0,1,2,3,4,5,7,9,11,12,13,14,20,22,23,24,25,32],plans:=[]}
theorem lS6:bQ3 lF5 (Tryz.f191.body.getD .skip)=true:=by kernel_rfl
def lF0:Fx:={n:=33,keep:=[0,1,2,4,5,7,11,20,21,22,23,24,29,31],plans:=[]}
theorem lS1:bQ3 lF0 (Tryz.f196.body.getD .skip)=true:=by kernel_rfl
def lG8:Fx:={n:=5,keep:=[0,2],plans:=[]}
theorem lR9:bQ3 lG8 (Tryz.f198.body.getD .skip)=true:=by kernel_rfl
def lG7:Fx:={n:=8,keep:=[0,1,2,3,4,5,6],plans:=[]}
theorem lR8:bQ3 lG7 (Tryz.f199.body.getD .skip)=true:=by kernel_rfl
def lG5:Fx:={n:=72,keep:=[0,1,2,3,8,9,10,22,33,37],plans:=[(8,{ex:=[6],mu:=[9],p:=tk [0,1,2,3,4,5,8]<|.eff 6<| .take 7<| .eff 9<| .done})]}
theorem lR5:bQ3 lG5 (Tryz.f202.body.getD .skip)=true:=by kernel_rfl
def lG4:Fx:={n:=19,keep:=[0,1,4,5,7,8,9,16],plans:=[]}
theorem lR4:bQ3 lG4 (Tryz.f221.body.getD .skip)=true:=by kernel_rfl
end Go.Proofs
end

section
namespace Go.Proofs
open Go Go.Vx
def mP3:Fx:={n:=39,keep:=[0,1,2,3,4,5],plans:=[]}
theorem ok12:bQ3 mP3 (Tryz.f12.body.getD .skip)=true:=by kernel_rfl
def mP2:Fx:={n:=26,keep:=[0,1,4,5,10,14,25],plans:=[(6,{ex:=[],mu:=[],p:=tk [0,1,2,3,4,5,6,7,8]<|.done})]}
theorem ok16:bQ3 mP2 (Tryz.f16.body.getD .skip)=true:=by kernel_rfl
def mB4:Fx:={n:=29,keep:=[0,1,4,5,6,7,11,24],plans:=[]}
theorem ok30:bQ3 mB4 (Tryz.f30.body.getD .skip)=true:=by kernel_rfl
def mB0:Fx:={n:=67,keep:=[0,1,2,3,4,5,6,29,34,47,52,66],plans:=[(6,{ex:=[],mu:=[],p:=tk [0,1,2,3,4,5,6,7,8,9,10]<|.done}),(11,{ex:=[],mu:=[10],p:=tk [0,1,2,3,4,5,6,7,8,9]<|.eff 10<| .take 11<| .done})]}
theorem ok35:bQ3 mB0 (Tryz.f35.body.getD .skip)=true:=by kernel_rfl
def mH8:Fx:={n:=54,keep:=[0,1,4,5,6,7,8,12,19,20,21,22,26,38],plans:=[]}
theorem ok37:bQ3 mH8 (Tryz.f37.body.getD .skip)=true:=by kernel_rfl
def mH7:Fx:={n:=10,keep:=[0,1],plans:=[]}
theorem ok44:bQ3 mH7 (Tryz.f44.body.getD .skip)=true:=by kernel_rfl
def lC2:Fx:={n:=72,keep:=[0,1,2,3,4,5,6,10,11,12,13,14,16,17,18,20,29,43,45,46,47,53,54,55,56,68],plans:=[]}
theorem lT1:bQ3 lC2 (Tryz.f47.body.getD .skip)=true:=by kernel_rfl
def mH3:Fx:={n:=7,keep:=[0,1,3],plans:=[]}
theorem ok54:bQ3 mH3 (Tryz.f54.body.getD .skip)=true:=by kernel_rfl
def mH1:Fx:={n:=17,keep:=[0,1,4,6],plans:=[]}
theorem ok59:bQ3 mH1 (Tryz.f59.body.getD .skip)=true:=by kernel_rfl
def mF3:Fx:={n:=58,keep:=[0,1,3,4,5,6,7,8,9,10,11,12,21,24,30,31,32,33,50],plans:=[(11,{ex:=[4],mu:=[9],p:=tk [0,1,2,3]<|.eff 4<| tk [5,6,7,8]<|.eff 9<| .done})]}
theorem ok67:bQ3 mF3 (Tryz.f67.body.getD .skip)=true:=by kernel_rfl
def mG5:Fx:={n:=23,keep:=[0,1,2,3,4,8,9,13,18],plans:=[]}
theorem ok85:bQ3 mG5 (Tryz.f85.body.getD .skip)=true:=by kernel_rfl
def mJ3:Fx:={n:=8,keep:=[0,2,4],plans:=[]}
theorem mW5:bQ3 mJ3 (Tryz.f92.body.getD .skip)=true:=by kernel_rfl
def mG0:Fx:={n:=96,keep:=[0,1,2,3,4,5,6,7,8,9,10,11,12,15,19,24,45,46,47,48,60,66,82,83,84,85],plans:=[(11,{ex:=[],mu:=[6],p:=tk [0,1,2,3,4,5]<|.eff 6<| .take 7<| .done}),(19,{ex:=[],mu:=[6],p:=tk [0,1,2,3,4,5]<|.eff 6<| .done})]}
theorem ok94:bQ3 mG0 (Tryz.f94.body.getD .skip)=true:=by kernel_rfl
def hB7:Fx:={n:=19,keep:=[0,1,4,5,7,8,9,16],plans:=[]}
theorem kZ6:bQ3 hB7 (Tryz.f106.body.getD .skip)=true:=by kernel_rfl
def lP9:Fx:={n:=17,keep:=[0,1,3,4,5,6,11],plans:=[]}
theorem mZ0:bQ3 lP9 (Tryz.f123.body.getD .skip)=true:=by kernel_rfl
def kL6:Fx:={n:=8,keep:=[0,2,4],plans:=[]}
theorem lV0:bQ3 kL6 (Tryz.f125.body.getD .skip)=true:=by kernel_rfl
def lP7:Fx:={n:=54,keep:=[0,1,4,5,6,7,8,9,10,11,12,13,14,15,24,37,50],plans:=[(7,{ex:=[9],mu:=[5,10],p:=tk [0,1,2,3,4]<|.fork 5 9 (tk [6,7,8]<|.eff 9<| .eff 10<| .take 11<| .done) (.eff 5<| tk [6,7,8]<|.eff 10<| .take 11<| .done)})]}
theorem mX8:bQ3 lP7 (Tryz.f126.body.getD .skip)=true:=by kernel_rfl
def lP0:Fx:={n:=15,keep:=[0,1,2,6],plans:=[]}
theorem mX1:bQ3 lP0 (Tryz.f135.body.getD .skip)=true:=by kernel_rfl
def lB9:Fx:={n:=72,keep:=[0,1,2,3,6,7,8,11,12,13,14,15,19,35],plans:=[(8,{ex:=[],mu:=[],p:=tk [0,1,2,3,4,5,6,7,8,9,10,11,12,13,14,15,16,17,18,19,20,21,22,23,24,25,26,27,28,29,30,31,32,33,34,35]<|.done})]}
theorem mX0:bQ3 lB9 (Tryz.f136.body.getD .skip)=true:=by kernel_rfl
def lB8:Fx:={n:=26,keep:=[0,1,2,3,5,8,9,10,11],plans:=[(5,{ex:=[8,9],mu:=[10],p:=tk [0,1,2,3,4,5,6,7]<|.eff 8<| .eff 9<| .eff 10<| .done})]}
theorem mQ9:bQ3 lB8 (Tryz.f137.body.getD .skip)=true:=by kernel_rfl
def lB6:Fx:={n:=8,keep:=[0,1,2,3,4,5,6],plans:=[]}
theorem mQ7:bQ3 lB6 (Tryz.f139.body.getD .skip)=true:=by kernel_rfl
def lB1:Fx:={n:=27,keep:=[0,1,2,3,5,13],plans:=[(3,{ex:=[],mu:=[9],p:=tk [0,1,2,3,4,5,6,7,8]<|.eff 9<| .take 10<| .done})]}
theorem mQ2:bQ3 lB1 (Tryz.f144.body.getD .skip)=true:=by kernel_rfl
def lH8:Fx:={n:=168,keep:=[0,1,2,3,4,8,9,10,11,12,13,14,15,16,18,19,21,23,28,35,43,63,64,65,66,87,88,89,92,93,94,100,101,102,103,114,115,116,118,119,120,121,145,147],plans:=[(14,{ex:=[14,15],mu:=[16],p:=tk [0,1,2,3,4,5,6,7,8,9,10,11,12,13]<|.eff 14<| .eff 15<| .eff 16<| .done}),(42,{ex:=[],mu:=[14],p:=tk [0,1,2,3,4,5,6,7,8,9,10,11,12,13]<|.eff 14<| .done})]}
theorem lL9:bQ3 lH8 (Tryz.f147.body.getD .skip)=true:=by kernel_rfl
def lH3:Fx:={n:=51,keep:=[0,1,4,5,6,7,8,9,10,11,12,13],plans:=[]}
theorem lL4:bQ3 lH3 (Tryz.f175.body.getD .skip)=true:=by kernel_rfl
def lF4:Fx:={n:=20,keep:=[0,1,2,4,6,9,10,11,12,18],plans:=[]}
theorem lS5:bQ3 lF4 (Tryz.f192.body.getD .skip)=true:=by kernel_rfl
def lF3:Fx:={n:=19,keep:=[0,1,4,5,7,8,9,16],plans:=[]}
theorem lS4:bQ3 lF3 (Tryz.f193.body.getD .skip)=true:=by kernel_rfl
def lF1:Fx:={n:=92,keep:=[0,1,2,4,6,7,9,14,15,16,17,24,37,76,77,78,79,90],plans:=[(5,{ex:=[],mu:=[],p:=tk [0,1,2,3,4,5,6,7,8,9]<|.done}),(8,{ex:=[11],mu:=[12,14],p:=tk [0,1,2,3,4,5,6,7,8,9,10]<|.eff 11<| .eff 12<| .take 13<| .eff 14<| .done}),(10,{ex:=[],mu:=[11],p:=tk [0,1,2,3,4,5,6,7,8,9,10]<|.eff 11<| .done})]}
theorem lS2:bQ3 lF1 (Tryz.f195.body.getD .skip)=true:=by kernel_rfl
def lG9:Fx:={n:=58,keep:=[0,1,2,4,6,9,10,11,12,13,16,25,39,48],plans:=[]}
theorem lS0:bQ3 lG9 (Tryz.f197.body.getD .skip)=true:=by kernel_rfl
def lG6:Fx:={n:=147,keep:=[0,1,2,3,8,9,11,12,14,15,36,52,53,54,55,61,99],plans:=[(0,{ex:=[],mu:=[15],p:=tk [0,1,2,3,4,5,6,7,8,9,10,11,12,13,14]<|.eff 15<| tk [16,17,18,19,20]<|.done}),(9,{ex:=[],mu:=[],p:=tk [0,1,2,3,4,5,6,7,8,9,10,11,12,13,14]<|.done}),(12,{ex:=[],mu:=[],p:=tk [0,1,2,3,4,5,6,7,8,9,10,11,12,13,14,15,16]<|.done}),(13,{ex:=[],mu:=[11],p:=tk [0,1,2,3,4,5,6,7,8,9,10]<|.eff 11<| .done})]}
theorem lR6:bQ3 lG6 (Tryz.f200.body.getD .skip)=true:=by kernel_rfl
def kW4:Fx:={n:=2,keep:=[0],plans:=[]}
theorem kT9:bQ3 kW4 (Tryz.f201.body.getD .skip)=true:=by kernel_rfl
def lG1:Fx:={n:=17,keep:=[0,1,2,4,6],plans:=[]}
theorem lR1:bQ3 lG1 (Tryz.f235.body.getD .skip)=true:=by kernel_rfl
def lG0:Fx:={n:=12,keep:=[0,1,2,4],plans:=[]}
theorem lR0:bQ3 lG0 (Tryz.f236.body.getD .skip)=true:=by kernel_rfl
def lY8:Fx:={n:=6,keep:=[0,1,2],plans:=[]}
theorem lT8:bQ3 lY8 (Tryz.f238.body.getD .skip)=true:=by kernel_rfl
def kL3:Fx:={n:=14,keep:=[0,1],plans:=[]}
theorem lK7:bQ3 kL3 (Tryz.f242.body.getD .skip)=true:=by kernel_rfl
end Go.Proofs
end

section

end

section
set_option linter.unusedVariables false
namespace Go.Proofs
open Go Go.Vx Go.Gm
def bH3 (p:Par):List Value:=[.int .i64 p.lk,.int .i64 p.lv,.int .i64 p.bias,.int .i64 p.th,.int .i64 p.rk,.int .i64 p.rs,.int .i64 p.fl,.int .i64 p.rest]
def cJ6 (s:Sta):List Value:=[.int .i64 s.v,.int .i64 s.rest]
theorem dN1 (n lo hi:Int)(w:World):
  Calls Tryz.prog 188 #[.int .i64 n,.int .i64 lo,.int .i64 hi] w fun e w'=>∃b:Bool,e=.returned (.bool b)/\(b=true<->lo<=n/\n<=hi)/\St w [] [] w':=by
 refine enter (C:=Tryz.cx) (F:=lF7) (args:=[_,_,_]) Tryz.func188 rfl rfl rfl lS8 (St.start w []) ?_
 repeat' (conv=>whnf);first|refine VSeq.go ?_|refine oS (fun _=>?_) fun _=>?_|refine oL ?_|refine oT ?_|refine oV fun _=>?_|refine oA ?_
 all_goals (conv=>whnf)
 all_goals exact ⟨fun w' hw'=>⟨_,rfl,by simp;omega,hw'⟩⟩
theorem bF9 (n lo hi:Int)(w:World):
  Calls Tryz.prog 135 #[.int .i64 n,.int .i64 lo,.int .i64 hi] w fun e w'=>∃b:Bool,e=.returned (.bool b)/\(b=true<->lo<=n/\n<=hi)/\St w [] [] w':=by
 refine enter (C:=Tryz.cx) (F:=lP0) (args:=[_,_,_]) Tryz.func135 rfl rfl rfl mX1 (St.start w []) ?_
 repeat' (conv=>whnf);first|refine VSeq.go ?_|refine oS (fun _=>?_) fun _=>?_|refine oL ?_|refine oT ?_|refine oV fun _=>?_|refine oA ?_
 all_goals (conv=>whnf)
 all_goals exact ⟨fun w' hw'=>⟨_,rfl,by simp;omega,hw'⟩⟩
def cB8 (k:Int):Value:=
 if k=0 then .func (.func 234) #[] #[] else if k=1 then .func (.func 235) #[] #[] else if k=2 then .func (.func 236) #[] #[] else .nilFunc
def dZ4 (k:Int):Int:=if k=0 then 0 else if k=1 then 1048576 else if k=2 then 256 else 0
theorem fB3 (k:Int)(w:World):
  Calls Tryz.prog 187 #[.int .i64 k] w fun e w'=>∃b:Bool,e=.returned (.tuple #[.agg #[.int .i64 (dZ4 k),cB8 k],.bool b])/\(b=true<->0<=k/\k<=2)/\St w [] [] w':=by
 refine enter (C:=Tryz.cx) (F:=lF8) (args:=[_]) Tryz.func187 rfl rfl rfl lS9 (St.start w []) ?_
 repeat' (conv=>whnf);first|refine VSeq.go ?_|refine oS (fun _=>?_) fun _=>?_|refine oL ?_|refine oT ?_|refine oV fun _=>?_|refine oA ?_
 all_goals (conv=>whnf)
 ·exact ⟨fun w' hw'=>⟨true,by simp [cV1,dZ4,cB8, *],by simp;omega,hw'.le .nil⟩⟩
 ·exact ⟨fun w' hw'=>⟨true,by simp [cV1,dZ4,cB8, *],by simp;omega,hw'.le .nil⟩⟩
 ·exact ⟨fun w' hw'=>⟨true,by simp [cV1,dZ4,cB8, *],by simp;omega,hw'.le .nil⟩⟩
 ·exact ⟨fun w' hw'=>⟨false,by simp [cV1,dZ4,cB8, *],by simp;omega,hw'.le .nil⟩⟩
theorem hF7 (k:Int):(cB8 k).oneCell'=true:=by
 unfold cB8;split<;>(try split)<;>(try split)<;>rfl
theorem fM1 (p:Par)(hp:p.wf)(w:World):
  Calls Tryz.prog 133 #[.agg (bH3 p).toArray] w fun e w'=>e=.returned (.int .i64 (chk p))/\St w [] [] w':=by
 obtain ⟨h1,h2,h3,h4,h5,h6,h7,h8⟩:=hp
 unfold I64 at*
 have hone:bK6 [.int .i64 (dZ4 p.lk),cB8 p.lk]=true:=by have h:=hF7 p.lk;simp only [bK6,h];rfl
 refine enter (C:=Tryz.cx) (F:=lP2) (args:=[_]) Tryz.func133 rfl rfl rfl mX3 (St.start w []) ?_
 have hm0:p.lk=0->dZ4 p.lk=0:=by intro h;simp [dZ4,h]
 have hm1:p.lk=1->dZ4 p.lk=1048576:=by intro h;simp [dZ4,h]
 have hm2:p.lk=2->dZ4 p.lk=256:=by intro h;simp [dZ4,h]
 repeat' (conv=>whnf);first|(refine VCall.is ?_;refine VCall.ex (fB3 _) fun b hb=>?_)|(refine VCall.is ?_;refine VCall.bool (dN1 _ _ _) ?_)|(refine VAr.is ?_;refine VAr.any fun _ _=>?_)|refine VSeq.go ?_|refine oS (fun _=>?_) fun _=>?_|(refine oB (fun h=>?_) (fun h=>?_)<;>subst h)|refine oL ?_|refine oT ?_|refine oV fun _=>?_|refine oH ?_
 all_goals (conv=>whnf)
 all_goals refine ⟨fun w' hw'=>⟨?_,hw'.le .nil⟩⟩
 all_goals simp only [true_iff,false_iff,QV] at hb
 all_goals first
  |(rw [lX2 (by unfold bC7;omega)];rfl)
  |(rw [hN1 (by unfold bC7;omega) (by unfold cX0 cW0;omega)];rfl)
  |(rw [kF3 (by unfold bC7;omega) (by unfold cX0 cW0;omega)];rfl)
theorem lW5 (p:Par)(v:Int)(w:World):
  Calls Tryz.prog 234 #[.agg (bH3 p).toArray,.int .i64 v] w fun e w'=>e=.returned (.int .i64 v)/\St w [] [] w':=by
 refine enter (C:=Tryz.cx) (F:=lG2) (args:=[_,_]) Tryz.func234 rfl rfl rfl lR2 (St.start w []) ?_
 repeat' (conv=>whnf);first|refine VSeq.go ?_|refine oS (fun _=>?_) fun _=>?_|refine oL ?_|refine oT ?_|refine oV fun _=>?_|refine oA ?_
 all_goals (conv=>whnf)
 all_goals exact ⟨fun w' hw'=>⟨rfl,hw'.le .nil⟩⟩
theorem lW4 (p:Par)(hp:ParOk p)(hk:p.lk=1)(v:Int)(h1: -1048576<=v)(h2:v<=1048576)(w:World):
  Calls Tryz.prog 235 #[.agg (bH3 p).toArray,.int .i64 v] w fun e w'=>e=.returned (.int .i64 (leak p v))/\St w [] [] w':=by
 have hl:=hp.leak
 unfold cW0 at hl
 refine enter (C:=Tryz.cx) (F:=lG1) (args:=[_,_]) Tryz.func235 rfl rfl rfl lR1 (St.start w []) ?_
 repeat' (conv=>whnf);first|refine VSeq.go ?_|refine oS (fun _=>?_) fun _=>?_|refine oL ?_|refine oT ?_|refine oV fun _=>?_|refine oA ?_
 all_goals (conv=>whnf)
 all_goals exact ⟨fun w' hw'=>⟨by simp [cV1,leak, *],hw'.le .nil⟩⟩
theorem lW3 (p:Par)(hp:ParOk p)(hk:p.lk=2)(v:Int)(h1: -1048576<=v)(h2:v<=1048576)(w:World):
  Calls Tryz.prog 236 #[.agg (bH3 p).toArray,.int .i64 v] w fun e w'=>e=.returned (.int .i64 (leak p v))/\St w [] [] w':=by
 have hl:=hp.leak
 unfold cW0 at hl
 have hm:=cL3 hp hk h1 h2
 have hd:=dV9 (a:=v*p.lv) (b:=256)
 refine enter (C:=Tryz.cx) (F:=lG0) (args:=[_,_]) Tryz.func236 rfl rfl rfl lR0 (St.start w []) ?_
 repeat' (conv=>whnf);first|(refine VQ.is ?_;refine VQ.any qZ qZ qZ ?_)|refine VSeq.go ?_|refine oL ?_|refine oV fun _=>?_|refine oA ?_
 all_goals (conv=>whnf)
 all_goals exact ⟨fun w' hw'=>⟨by simp [cV1,leak, *],hw'.le .nil⟩⟩
theorem cP4 (n lo hi:Int)(w:World):
  Calls Tryz.prog 237 #[.int .i64 n,.int .i64 lo,.int .i64 hi] w fun e w'=>e=.returned (.int .i64 (max lo (min hi n)))/\St w [] [] w':=by
 refine enter (C:=Tryz.cx) (F:=lY9) (args:=[_,_,_]) Tryz.func237 rfl rfl rfl lT9 (St.start w []) ?_
 repeat' (conv=>whnf);first|refine VSeq.go ?_|refine oS (fun _=>?_) fun _=>?_|refine oL ?_|refine oT ?_|refine oV fun _=>?_|refine oA ?_
 all_goals (conv=>whnf)
 all_goals exact ⟨fun w' hw'=>⟨rfl,hw'⟩⟩
theorem dV2 (p:Par)(hp:p.wf)(s:Sta)(w:World):
  Calls Tryz.prog 142 #[.agg (bH3 p).toArray,.agg (cJ6 s).toArray] w fun e w'=>e=.returned (.int .i64 (kD2 p s))/\St w [] [] w':=by
 refine enter (C:=Tryz.cx) (F:=lB3) (args:=[_,_]) Tryz.func142 rfl rfl rfl mQ4 (St.start w []) ?_
 repeat' (conv=>whnf);first|(refine VCall.is ?_;refine VCall.val (fM1 p hp) ?_)|(refine VCall.is ?_;refine VCall.bool (dN1 _ _ _) ?_)|refine VSeq.go ?_|refine oS (fun _=>?_) fun _=>?_|refine oL ?_|refine oV fun _=>?_
 all_goals (conv=>whnf)
 all_goals refine ⟨fun w' hw'=>⟨?_,hw'.le .nil⟩⟩
 all_goals refine congrArg (fun x=>Ending.returned (.int .i64 x)) ?_
 all_goals unfold kD2 bD9
 all_goals (repeat' split)<;>first|rfl|omega
def mK8 (p:Par)(s:Sta)(F:Value):List Value:=[.int .i64 p.lk,.int .i64 p.lv,.int .i64 p.bias,.int .i64 p.th,.int .i64 p.rk,.int .i64 p.rs,.int .i64 p.fl,.int .i64 p.rest,.int .i64 s.v,.int .i64 s.rest,F]
def kF4 (p:Par)(s:Sta):List Value:=mK8 p s (cB8 p.lk)
theorem gN6 (p:Par)(hp:p.wf)(s:Sta)(h:kD2 p s=0)(w:World):
  Calls Tryz.prog 189 #[.agg (bH3 p).toArray,.agg (cJ6 s).toArray] w fun e w'=>∃b:Nat,e=.returned (.tuple #[.pointer (some ⟨b,0,none⟩),.int .i64 0])/\True/\St w [] [.row b 357 (kF4 p s)] w':=by
 have hlk:p.lk=0\/p.lk=1\/p.lk=2:=by have:=(fM0.1 h).1.lk;omega
 obtain ⟨lk,lv,bias,th,rk,rs,fl,rest⟩:=p
 dsimp only at hlk
 rcases hlk with rfl|rfl|rfl
 all_goals refine enter (C:=Tryz.cx) (F:=lF6) (args:=[_,_]) Tryz.func189 rfl rfl rfl lS7 (St.start w []) ?_
 repeat' (conv=>whnf);first|(refine VCall.is ?_;refine VCall.val (dV2 _ hp _) ?_)|(refine VCall.is ?_;refine VCall.ex (fB3 _) fun b hb=>?_)|(refine VB.is ?_;refine VB.split (fun hn=>absurd h hn) (fun _=>?_))|refine VSeq.go ?_|refine oL ?_|refine oT ?_|refine oV fun _=>?_
 all_goals (conv=>whnf)
 all_goals exact ⟨fun w' hw'=>⟨_,rfl,trivial,hw'.le (.cons .here .nil)⟩⟩
theorem hL0 (p:Par)(s:Sta)(x:Int)(hp:ParOk p)(hs:bD9 p s)(b:Nat)(w:World)(hw:w.heap[b]? =some (.cells (kF4 p s).toArray 357 (0,0))):
  Calls Tryz.prog 190 #[.pointer (some ⟨b,0,none⟩),.int .i64 x] w fun e w'=>∃_:Unit,e=.returned (.bool (tick p s x).2)/\True/\St w [b] [.row b 357 (kF4 p (tick p s x).1)] w':=by
 have hlk:p.lk=0\/p.lk=1\/p.lk=2:=by have:=hp.lk;omega
 have hv1: -1048576<=s.v:=by have:=hp.fl;have:=hs.1;omega
 have hv2:s.v<=1048576:=hs.1.2
 have hb:=gQ1 hp (v:=s.v) hv1 hv2
 have hbias:=hp.bias
 have hth:=hp.th
 have hfl:=hp.fl
 have hr:=hs.2
 have hrest:=hp.rest
 unfold kF4 at*
 rcases hlk with hlk|hlk|hlk
 ·have hF:cB8 p.lk=.func (.func 234) #[] #[]:=by simp [cB8,hlk]
  have hl:leak p s.v=s.v:=by simp [leak,hlk]
  have hV:cH3 p s x=max p.fl (min 1048576 (s.v+p.bias+max (-4194304) (min 4194304 x))):=by rw [cH3,hl]
  rw [hF] at hw ⊢
  refine enter (C:=Tryz.cx) (F:=kW5) (args:=[_,_]) Tryz.func190 rfl rfl rfl kR0 (cC7 hw) ?_
  repeat' (conv=>whnf);first|(refine VCall.is ?_;refine VCall.val (lW5 _ _) ?_)|(refine VCall.is ?_;refine VCall.val (cP4 _ _ _) ?_)|refine VSeq.go ?_|refine oS (fun _=>?_) fun _=>?_|refine oL ?_|refine oT ?_|refine oA ?_|refine oK ?_|refine oH ?_
  all_goals (conv=>whnf)
  ·rw [dV8 ‹_›];exact ⟨fun w' hw'=>⟨(),rfl,trivial,hw'⟩⟩
  ·rw [dL0 hV ‹_› ‹_›];exact ⟨fun w' hw'=>⟨(),rfl,trivial,hw'⟩⟩
  ·rw [dS9 hV ‹_› ‹_› ‹_›];exact ⟨fun w' hw'=>⟨(),rfl,trivial,hw'⟩⟩
  ·rw [fC9 hV ‹_› ‹_› ‹_›];exact ⟨fun w' hw'=>⟨(),rfl,trivial,hw'⟩⟩
 ·have hF:cB8 p.lk=.func (.func 235) #[] #[]:=by simp [cB8,hlk]
  have hV:cH3 p s x=max p.fl (min 1048576 (leak p s.v+p.bias+max (-4194304) (min 4194304 x))):=by rw [cH3]
  rw [hF] at hw ⊢
  refine enter (C:=Tryz.cx) (F:=kW5) (args:=[_,_]) Tryz.func190 rfl rfl rfl kR0 (cC7 hw) ?_
  repeat' (conv=>whnf);first|(refine VCall.is ?_;refine VCall.val (lW4 p hp hlk _ hv1 hv2) ?_)|(refine VCall.is ?_;refine VCall.val (cP4 _ _ _) ?_)|refine VSeq.go ?_|refine oS (fun _=>?_) fun _=>?_|refine oL ?_|refine oT ?_|refine oA ?_|refine oK ?_|refine oH ?_
  all_goals (conv=>whnf)
  ·rw [dV8 ‹_›];exact ⟨fun w' hw'=>⟨(),rfl,trivial,hw'⟩⟩
  ·rw [dL0 hV ‹_› ‹_›];exact ⟨fun w' hw'=>⟨(),rfl,trivial,hw'⟩⟩
  ·rw [dS9 hV ‹_› ‹_› ‹_›];exact ⟨fun w' hw'=>⟨(),rfl,trivial,hw'⟩⟩
  ·rw [fC9 hV ‹_› ‹_› ‹_›];exact ⟨fun w' hw'=>⟨(),rfl,trivial,hw'⟩⟩
 ·have hF:cB8 p.lk=.func (.func 236) #[] #[]:=by simp [cB8,hlk]
  have hV:cH3 p s x=max p.fl (min 1048576 (leak p s.v+p.bias+max (-4194304) (min 4194304 x))):=by rw [cH3]
  rw [hF] at hw ⊢
  refine enter (C:=Tryz.cx) (F:=kW5) (args:=[_,_]) Tryz.func190 rfl rfl rfl kR0 (cC7 hw) ?_
  repeat' (conv=>whnf);first|(refine VCall.is ?_;refine VCall.val (lW3 p hp hlk _ hv1 hv2) ?_)|(refine VCall.is ?_;refine VCall.val (cP4 _ _ _) ?_)|refine VSeq.go ?_|refine oS (fun _=>?_) fun _=>?_|refine oL ?_|refine oT ?_|refine oA ?_|refine oK ?_|refine oH ?_
  all_goals (conv=>whnf)
  ·rw [dV8 ‹_›];exact ⟨fun w' hw'=>⟨(),rfl,trivial,hw'⟩⟩
  ·rw [dL0 hV ‹_› ‹_›];exact ⟨fun w' hw'=>⟨(),rfl,trivial,hw'⟩⟩
  ·rw [dS9 hV ‹_› ‹_› ‹_›];exact ⟨fun w' hw'=>⟨(),rfl,trivial,hw'⟩⟩
  ·rw [fC9 hV ‹_› ‹_› ‹_›];exact ⟨fun w' hw'=>⟨(),rfl,trivial,hw'⟩⟩
theorem hC4 (p:Par)(s:Sta)(x:Int)(hp:ParOk p)(hs:bD9 p s)(w:World):
  Calls Tryz.prog 138 #[.agg (bH3 p).toArray,.agg (cJ6 s).toArray,.int .i64 x] w fun e w'=>e=.returned (.tuple #[.agg (cJ6 (tick p s x).1).toArray,.bool (tick p s x).2,.int .i64 0])/\St w [] [] w':=by
 have h0:kD2 p s=0:=fM0.2 ⟨hp,hs⟩
 refine enter (C:=Tryz.cx) (F:=lB7) (args:=[_,_,_]) Tryz.func138 rfl rfl rfl mQ8 (St.start w []) ?_
 repeat' (conv=>whnf);first|(refine VCall.is ?_;refine VCall.gen (gN6 _ hp.wf _ h0) fun b _=>?_)|(refine VCall.is ?_;refine VCall.turn aT (hL0 p s x hp hs _) fun _ _=>?_)|refine VSeq.go ?_|refine oN fun _=>?_|refine oL ?_|refine oT ?_|refine oV fun _=>?_
 all_goals (conv=>whnf)
 all_goals exact ⟨fun w' hw'=>⟨rfl,hw'.le .nil⟩⟩
end Go.Proofs
end
