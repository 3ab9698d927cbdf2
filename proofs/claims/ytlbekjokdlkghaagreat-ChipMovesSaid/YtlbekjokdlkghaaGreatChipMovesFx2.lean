import Derived.Test.YtlbekjokdlkghaaGreatChipMovesLay
section
namespace Go.Proofs
open Go Go.Vx
def mK2:Fx:={n:=35,keep:=[0,1,2,3,4,5,6,10,11,12,13,14,15,27],plans:=[(4,{ex:=[],mu:=[6],p:=tk [0,1,2,3,4,5]<|.eff 6<| .take 7<| .done})]}
theorem mY4:bQ3 mK2 (Tryz.f13.body.getD .skip)=true:=by kernel_rfl
def mP0:Fx:={n:=26,keep:=[0,1,2,5,8],plans:=[]}
theorem ok19:bQ3 mP0 (Tryz.f19.body.getD .skip)=true:=by kernel_rfl
def lC3:Fx:={n:=273,keep:=[0,1,2,3,4,6,7,8,9,10,11,13,14,15,16,17,18,19,20,21,23,24,25,26,28,37,62,66,67,68,69,86,87,88,89,134,135,161,189,190,191,192,219,223,224,225,226,234,235,236,237,238,269],plans:=[(4,{ex:=[1,5,13,3,4],mu:=[11,14],p:=tk [0,2,6,7,8,9,10]<|.fork3 1 5 13 (.fork3 3 5 13 (.fork3 4 5 13 (.fork 5 13 (.fork 11 13 (.take 12<| .eff 13<| .eff 14<| .done) (.eff 11<| .take 12<| .eff 14<| .done)) (.eff 5<| .eff 11<| .take 12<| .eff 14<| .done)) (.fork3 4 11 13 (.fork 11 13 (.take 12<| .eff 13<| .eff 14<| .done) (.eff 11<| .take 12<| .eff 14<| .done)) (.fork 4 13 (.take 12<| .eff 13<| .eff 14<| .done) (.eff 4<| .take 12<| .eff 14<| .done)) (.fork 4 11 (.eff 11<| .take 12<| .eff 14<| .done) (.eff 4<| .take 12<| .eff 14<| .done))) (.fork 4 5 (.eff 5<| .eff 11<| .take 12<| .eff 14<| .done) (.fork 4 11 (.eff 11<| .take 12<| .eff 14<| .done) (.eff 4<| .take 12<| .eff 14<| .done)))) (.fork 3 13 (.fork3 4 11 13 (.fork 11 13 (.take 12<| .eff 13<| .eff 14<| .done) (.eff 11<| .take 12<| .eff 14<| .done)) (.fork 4 13 (.take 12<| .eff 13<| .eff 14<| .done) (.eff 4<| .take 12<| .eff 14<| .done)) (.fork 4 11 (.eff 11<| .take 12<| .eff 14<| .done) (.eff 4<| .take 12<| .eff 14<| .done))) (.eff 3<| .fork 4 11 (.eff 11<| .take 12<| .eff 14<| .done) (.eff 4<| .take 12<| .eff 14<| .done))) (.fork 3 5 (.fork 4 5 (.eff 5<| .eff 11<| .take 12<| .eff 14<| .done) (.fork 4 11 (.eff 11<| .take 12<| .eff 14<| .done) (.eff 4<| .take 12<| .eff 14<| .done))) (.eff 3<| .fork 4 11 (.eff 11<| .take 12<| .eff 14<| .done) (.eff 4<| .take 12<| .eff 14<| .done)))) (.fork 1 13 (.fork 3 13 (.fork3 4 11 13 (.fork 11 13 (.take 12<| .eff 13<| .eff 14<| .done) (.eff 11<| .take 12<| .eff 14<| .done)) (.fork 4 13 (.take 12<| .eff 13<| .eff 14<| .done) (.eff 4<| .take 12<| .eff 14<| .done)) (.fork 4 11 (.eff 11<| .take 12<| .eff 14<| .done) (.eff 4<| .take 12<| .eff 14<| .done))) (.eff 3<| .fork 4 11 (.eff 11<| .take 12<| .eff 14<| .done) (.eff 4<| .take 12<| .eff 14<| .done))) (.eff 1<| .eff 3<| .fork 4 11 (.eff 11<| .take 12<| .eff 14<| .done) (.eff 4<| .take 12<| .eff 14<| .done))) (.fork 1 5 (.fork 3 5 (.fork 4 5 (.eff 5<| .eff 11<| .take 12<| .eff 14<| .done) (.fork 4 11 (.eff 11<| .take 12<| .eff 14<| .done) (.eff 4<| .take 12<| .eff 14<| .done))) (.eff 3<| .fork 4 11 (.eff 11<| .take 12<| .eff 14<| .done) (.eff 4<| .take 12<| .eff 14<| .done))) (.eff 1<| .eff 3<| .fork 4 11 (.eff 11<| .take 12<| .eff 14<| .done) (.eff 4<| .take 12<| .eff 14<| .done)))}),(19,{ex:=[11,27,28],mu:=[30],p:=tk [0,1,2,3,4,5,6,7,8,9,10,12,13,14,15,16,17,18,19,20,21,22,23,24,25]<|.eff 11<| .take 26<| .eff 27<| .eff 28<| .take 29<| .eff 30<| .done}),(27,{ex:=[3],mu:=[6],p:=tk [0,1,2]<|.eff 3<| tk [4,5]<|.eff 6<| .done}),(33,{ex:=[],mu:=[7],p:=tk [0,1,2,3,4,5,6]<|.eff 7<| .done}),(39,{ex:=[],mu:=[14],p:=tk [0,1,2,3,4,5,6,7,8,9,10,11,12,13]<|.eff 14<| .done}),(54,{ex:=[5],mu:=[10],p:=tk [0,1,2,3,4]<|.eff 5<| tk [6,7,8,9]<|.eff 10<| .take 11<| .done}),(55,{ex:=[],mu:=[],p:=tk [0,1,2,3,4,5,6,7,8,9,10,11,12]<|.done})]}
theorem lR7:bQ3 lC3 (Tryz.f20.body.getD .skip)=true:=by kernel_rfl
def mB8:Fx:={n:=26,keep:=[0,1,4,5,10,14,25],plans:=[(6,{ex:=[],mu:=[],p:=tk [0,1,2,3,4,5,6,7,8]<|.done})]}
theorem ok26:bQ3 mB8 (Tryz.f26.body.getD .skip)=true:=by kernel_rfl
def mB6:Fx:={n:=53,keep:=[0,1,2,3,6,7,8,9,10,11,12,14,20,27,28,29,35,36,37,38,50],plans:=[]}
theorem ok28:bQ3 mB6 (Tryz.f28.body.getD .skip)=true:=by kernel_rfl
def mB5:Fx:={n:=12,keep:=[0,1,2,3,4,8],plans:=[]}
theorem ok29:bQ3 mB5 (Tryz.f29.body.getD .skip)=true:=by kernel_rfl
def mB2:Fx:={n:=79,keep:=[0,2,3,4,6,7,8,10,13,25,26,27,28,41,42,48,49,50,51],plans:=[(7,{ex:=[6],mu:=[7,9],p:=tk [0,1,2,3,4,5]<|.eff 6<| .eff 7<| .take 8<| .eff 9<| .done}),(16,{ex:=[],mu:=[14,15],p:=tk [0,1,2,3,4,5,6,7,8,9,10,11,12,13]<|.eff 14<| .eff 15<| .take 16<| .done})]}
theorem ok33:bQ3 mB2 (Tryz.f33.body.getD .skip)=true:=by kernel_rfl
def mH5:Fx:={n:=36,keep:=[0,2,3,5,6,8,9,10,11,12,20,25,26,27,28],plans:=[]}
theorem ok52:bQ3 mH5 (Tryz.f52.body.getD .skip)=true:=by kernel_rfl
def mJ9:Fx:={n:=23,keep:=[0,1,2,3,4,6,7,8,9,17],plans:=[]}
theorem mY1:bQ3 mJ9 (Tryz.f55.body.getD .skip)=true:=by kernel_rfl
def mJ8:Fx:={n:=8,keep:=[0,2,4],plans:=[]}
theorem mY0:bQ3 mJ8 (Tryz.f56.body.getD .skip)=true:=by kernel_rfl
def mH2:Fx:={n:=48,keep:=[0,1,4,5,6,7,8,10,26,37],plans:=[(9,{ex:=[],mu:=[7],p:=tk [0,1,2,3,4,5,6]<|.eff 7<| tk [8,9]<|.done})]}
theorem ok58:bQ3 mH2 (Tryz.f58.body.getD .skip)=true:=by kernel_rfl
def mF4:Fx:={n:=106,keep:=[0,1,2,4,5,6,7,9,10,11,12,13,14,15,19,23,25,26,27,28,38,43,54,68,69,70,73,75,83],plans:=[(27,{ex:=[12],mu:=[13,15],p:=tk [0,1,2,3,4,5,6,7,8,9,10,11]<|.eff 12<| .eff 13<| .take 14<| .eff 15<| .done})]}
theorem ok66:bQ3 mF4 (Tryz.f66.body.getD .skip)=true:=by kernel_rfl
def mF2:Fx:={n:=31,keep:=[0,1,2,4,5,7,11,13,14,15,16,29],plans:=[]}
theorem ok69:bQ3 mF2 (Tryz.f69.body.getD .skip)=true:=by kernel_rfl
def mF0:Fx:={n:=39,keep:=[0,1,2,3,6,7,8,15,21,27,33],plans:=[(1,{ex:=[6,7,2],mu:=[5,8,9],p:=tk [0,1,3,4]<|.fork3 2 6 7 (.fork3 5 6 7 (.fork 6 7 (.eff 7<| .eff 8<| .eff 9<| .done) (.eff 6<| .eff 8<| .eff 9<| .done)) (.fork 5 7 (.eff 7<| .eff 8<| .eff 9<| .done) (.eff 5<| .eff 8<| .eff 9<| .done)) (.fork 5 6 (.eff 6<| .eff 8<| .eff 9<| .done) (.eff 5<| .eff 8<| .eff 9<| .done))) (.fork 2 7 (.fork 5 7 (.eff 7<| .eff 8<| .eff 9<| .done) (.eff 5<| .eff 8<| .eff 9<| .done)) (.eff 2<| .eff 5<| .eff 8<| .eff 9<| .done)) (.fork 2 6 (.fork 5 6 (.eff 6<| .eff 8<| .eff 9<| .done) (.eff 5<| .eff 8<| .eff 9<| .done)) (.eff 2<| .eff 5<| .eff 8<| .eff 9<| .done))})]}
theorem ok71:bQ3 mF0 (Tryz.f71.body.getD .skip)=true:=by kernel_rfl
def kL2:Fx:={n:=15,keep:=[0,1,2,6],plans:=[]}
theorem lZ3:bQ3 kL2 (Tryz.f79.body.getD .skip)=true:=by kernel_rfl
def mG3:Fx:={n:=85,keep:=[0,1,2,4,5,6,7,8,9,10,12,15,16,17,18,50,63,64],plans:=[(6,{ex:=[21],mu:=[16,22],p:=tk [0,1,2,3,4,5,6,7,8,9,10,11,12,13,14,15]<|.fork 16 21 (tk [17,18,19,20]<|.eff 21<| .eff 22<| tk [23,24]<|.done) (.eff 16<| tk [17,18,19,20]<|.eff 22<| tk [23,24]<|.done)}),(7,{ex:=[],mu:=[7],p:=tk [0,1,2,3,4,5,6]<|.eff 7<| .done}),(14,{ex:=[3],mu:=[12],p:=tk [0,1,2,4,5,8,9]<|.eff 3<| tk [6,7,10,11]<|.eff 12<| .done})]}
theorem ok87:bQ3 mG3 (Tryz.f87.body.getD .skip)=true:=by kernel_rfl
def mG1:Fx:={n:=34,keep:=[0,1,2,4,5,6,7,8,9,10,14,21],plans:=[]}
theorem ok90:bQ3 mG1 (Tryz.f90.body.getD .skip)=true:=by kernel_rfl
def lC1:Fx:={n:=14,keep:=[0,2],plans:=[]}
theorem lT0:bQ3 lC1 (Tryz.f91.body.getD .skip)=true:=by kernel_rfl
def lD9:Fx:={n:=2,keep:=[0],plans:=[]}
theorem mJ0:bQ3 lD9 (Tryz.f102.body.getD .skip)=true:=by kernel_rfl
def kL9:Fx:={n:=27,keep:=[0,1,4,6,16],plans:=[]}
theorem lV3:bQ3 kL9 (Tryz.f107.body.getD .skip)=true:=by kernel_rfl
def lD8:Fx:={n:=46,keep:=[0,1,2,4,6,15,16,17,18,19,22,32,45],plans:=[]}
theorem mZ9:bQ3 lD8 (Tryz.f109.body.getD .skip)=true:=by kernel_rfl
def lD7:Fx:={n:=30,keep:=[0,1,4,5,6,7,8,9],plans:=[]}
theorem mZ8:bQ3 lD7 (Tryz.f110.body.getD .skip)=true:=by kernel_rfl
def kW7:Fx:={n:=4,keep:=[0,1,2],plans:=[]}
theorem kR2:bQ3 kW7 (Tryz.f113.body.getD .skip)=true:=by kernel_rfl
def lD1:Fx:={n:=32,keep:=[0,1,2],plans:=[]}
theorem mZ2:bQ3 lD1 (Tryz.f121.body.getD .skip)=true:=by kernel_rfl
def kL5:Fx:={n:=9,keep:=[0,1,2,4],plans:=[]}
theorem lK9:bQ3 kL5 (Tryz.f131.body.getD .skip)=true:=by kernel_rfl
def lP2:Fx:={n:=70,keep:=[0,1,2,3,4,5,6,20,28,69],plans:=[(4,{ex:=[],mu:=[],p:=tk [0,1,2,3,4,5,6]<|.done})]}
theorem mX3:bQ3 lP2 (Tryz.f133.body.getD .skip)=true:=by kernel_rfl
def lB5:Fx:={n:=9,keep:=[0,1,4],plans:=[]}
theorem mQ6:bQ3 lB5 (Tryz.f140.body.getD .skip)=true:=by kernel_rfl
def lB3:Fx:={n:=25,keep:=[0,1,2,3,4,5,9,24],plans:=[]}
theorem mQ4:bQ3 lB3 (Tryz.f142.body.getD .skip)=true:=by kernel_rfl
def lB2:Fx:={n:=6,keep:=[0,2],plans:=[]}
theorem mQ3:bQ3 lB2 (Tryz.f143.body.getD .skip)=true:=by kernel_rfl
def lH7:Fx:={n:=57,keep:=[0,1,2,3,4,5,10,33,35,36,37,38,42,49],plans:=[]}
theorem lL8:bQ3 lH7 (Tryz.f170.body.getD .skip)=true:=by kernel_rfl
def lH1:Fx:={n:=11,keep:=[0,1,2,3],plans:=[]}
theorem lL2:bQ3 lH1 (Tryz.f183.body.getD .skip)=true:=by kernel_rfl
def lF9:Fx:={n:=33,keep:=[0,1,2,6,7,16],plans:=[(5,{ex:=[],mu:=[6],p:=tk [0,1,2,3,4,5]<|.eff 6<| .take 7<| .done})]}
theorem lL0:bQ3 lF9 (Tryz.f185.body.getD .skip)=true:=by kernel_rfl
def lF2:Fx:={n:=19,keep:=[0,1,4,5,7,8,9,16],plans:=[]}
theorem lS3:bQ3 lF2 (Tryz.f194.body.getD .skip)=true:=by kernel_rfl
def lG3:Fx:={n:=8,keep:=[0,2],plans:=[]}
theorem lR3:bQ3 lG3 (Tryz.f233.body.getD .skip)=true:=by kernel_rfl
def lY9:Fx:={n:=12,keep:=[0,1,2,6],plans:=[]}
theorem lT9:bQ3 lY9 (Tryz.f237.body.getD .skip)=true:=by kernel_rfl
def lY7:Fx:={n:=13,keep:=[0,1,2,4,5,6,7],plans:=[]}
theorem lT7:bQ3 lY7 (Tryz.f239.body.getD .skip)=true:=by kernel_rfl
def lY6:Fx:={n:=72,keep:=[0,1,2,3,6,7,8,9,11,13,14,15,16,42,49,50,51,52,70],plans:=[(4,{ex:=[],mu:=[],p:=tk [0,1,2,3,4,5,6,7,8,9,10]<|.done}),(5,{ex:=[],mu:=[5],p:=tk [0,1,2,3,4]<|.eff 5<| .done}),(8,{ex:=[],mu:=[],p:=tk [0,1,2,3,4,5,6,7]<|.done}),(11,{ex:=[],mu:=[13],p:=tk [0,1,2,3,4,5,6,7,8,9,10,11,12]<|.yld 13<| tk [14,15]<|.done})]}
theorem lT6:bQ3 lY6 (Tryz.f240.body.getD .skip)=true:=by kernel_rfl
def lY5:Fx:={n:=25,keep:=[0,1,3,4,11],plans:=[(1,{ex:=[],mu:=[],p:=tk [0,1,2,3,4,5,6]<|.done}),(2,{ex:=[6],mu:=[7],p:=tk [0,1,2,3,4,5]<|.eff 6<| .eff 7<| .done}),(3,{ex:=[],mu:=[],p:=tk [0,1,2,3,4,5,6]<|.done})]}
theorem lT5:bQ3 lY5 (Tryz.f241.body.getD .skip)=true:=by kernel_rfl
def lY3:Fx:={n:=9,keep:=[0,2,4],plans:=[]}
theorem lT3:bQ3 lY3 (Tryz.f244.body.getD .skip)=true:=by kernel_rfl
def lY2:Fx:={n:=35,keep:=[0,2],plans:=[]}
theorem lT2:bQ3 lY2 (Tryz.f267.body.getD .skip)=true:=by kernel_rfl
end Go.Proofs
end

section
namespace Go.Proofs
open Go Go.Vx
def mB9:Fx:={n:=54,keep:=[0,1,2,3,6,7,8,9,11,12,20,24,31,32,33,34,40,41],plans:=[(1,{ex:=[2,4],mu:=[5],p:=tk [0,1,3]<|.eff 2<| .eff 4<| .eff 5<| .take 6<| .done}),(12,{ex:=[7],mu:=[10],p:=tk [0,1,2,3,4,5,6]<|.eff 7<| tk [8,9]<|.eff 10<| .done})]}
theorem ok22:bQ3 mB9 (Tryz.f22.body.getD .skip)=true:=by kernel_rfl
def mB3:Fx:={n:=29,keep:=[0,1,4,5,6,10,19],plans:=[]}
theorem ok31:bQ3 mB3 (Tryz.f31.body.getD .skip)=true:=by kernel_rfl
def mB1:Fx:={n:=34,keep:=[0,2,3,4,5,8,20,21],plans:=[(3,{ex:=[8,10],mu:=[11],p:=tk [0,1,2,3,4,5,6,7]<|.fork 8 10 (.take 9<| .eff 10<| .eff 11<| .done) (.eff 8<| .take 9<| .eff 11<| .done)}),(7,{ex:=[4,5,6],mu:=[7,9],p:=tk [0,1,2,3]<|.eff 4<| .eff 5<| .eff 6<| .eff 7<| .take 8<| .eff 9<| .done})]}
theorem ok34:bQ3 mB1 (Tryz.f34.body.getD .skip)=true:=by kernel_rfl
def mH4:Fx:={n:=7,keep:=[0,1,3],plans:=[]}
theorem ok53:bQ3 mH4 (Tryz.f53.body.getD .skip)=true:=by kernel_rfl
def lY0:Fx:={n:=10,keep:=[0,1,2],plans:=[]}
theorem lN8:bQ3 lY0 (Tryz.f57.body.getD .skip)=true:=by kernel_rfl
def mH0:Fx:={n:=6,keep:=[0,1,2,3,4],plans:=[]}
theorem ok60:bQ3 mH0 (Tryz.f60.body.getD .skip)=true:=by kernel_rfl
def mF7:Fx:={n:=19,keep:=[0,1,4,5,7,8,9,16],plans:=[]}
theorem ok63:bQ3 mF7 (Tryz.f63.body.getD .skip)=true:=by kernel_rfl
def mF5:Fx:={n:=19,keep:=[0,1,2,3,4,5,6,7,9,10,18],plans:=[(3,{ex:=[],mu:=[],p:=tk [0,1,2,3,4,5,6,7]<|.done})]}
theorem ok65:bQ3 mF5 (Tryz.f65.body.getD .skip)=true:=by kernel_rfl
def mF1:Fx:={n:=8,keep:=[0,1,2,3,4,5,6],plans:=[]}
theorem ok70:bQ3 mF1 (Tryz.f70.body.getD .skip)=true:=by kernel_rfl
def mG8:Fx:={n:=81,keep:=[0,1,2,4,5,7,8,13,29,34,35,36,37,43,47,48,49,50,79],plans:=[]}
theorem ok78:bQ3 mG8 (Tryz.f78.body.getD .skip)=true:=by kernel_rfl
def mJ6:Fx:={n:=8,keep:=[0,2,4],plans:=[]}
theorem mW8:bQ3 mJ6 (Tryz.f81.body.getD .skip)=true:=by kernel_rfl
def mG7:Fx:={n:=38,keep:=[0,1,2,3,8,9,10],plans:=[]}
theorem ok82:bQ3 mG7 (Tryz.f82.body.getD .skip)=true:=by kernel_rfl
def mG6:Fx:={n:=20,keep:=[0,1,4,5,16],plans:=[]}
theorem ok83:bQ3 mG6 (Tryz.f83.body.getD .skip)=true:=by kernel_rfl
def mJ5:Fx:={n:=7,keep:=[0,2],plans:=[]}
theorem mW7:bQ3 mJ5 (Tryz.f84.body.getD .skip)=true:=by kernel_rfl
def lW9:Fx:={n:=17,keep:=[0,1,4],plans:=[(1,{ex:=[],mu:=[],p:=tk [0,1,2,3,4,5,6,7,8,9,10,11,12]<|.done})]}
theorem lN7:bQ3 lW9 (Tryz.f93.body.getD .skip)=true:=by kernel_rfl
def mY9:Fx:={n:=263,keep:=[0,1,2,3,4,5,6,8,9,10,12,13,14,15,17,19,20,22,23,34,35,36,37,68,80,81,103,104,105,106,132,133,134,135],plans:=[(6,{ex:=[19],mu:=[14,20],p:=tk [0,1,2,3,4,5,6,7,8,9,10,11,12,13]<|.fork 14 19 (tk [15,16,17,18]<|.eff 19<| .eff 20<| tk [21,22]<|.done) (.eff 14<| tk [15,16,17,18]<|.eff 20<| tk [21,22]<|.done)}),(7,{ex:=[],mu:=[6,10],p:=tk [0,1,2,3,4,5,7,8]<|.eff 6<| .take 9<| .eff 10<| .done}),(9,{ex:=[5],mu:=[6,7],p:=tk [0,1,2,3,4]<|.eff 5<| .eff 6<| .eff 7<| .done}),(15,{ex:=[20],mu:=[16,21],p:=tk [0,1,2,3,4,5,6,7,8,9,10,11,12,13,14,15]<|.fork 16 20 (tk [17,18,19]<|.eff 20<| .eff 21<| .take 22<| .done) (.eff 16<| tk [17,18,19]<|.eff 21<| .take 22<| .done)}),(21,{ex:=[],mu:=[],p:=tk [0,1,2,3,4,5,6,7,8]<|.done}),(22,{ex:=[],mu:=[],p:=tk [0,1,2,3,4,5,6,7,8,9,10,11,12]<|.done}),(25,{ex:=[],mu:=[],p:=tk [0,1,2,3,4,5,6,7,8]<|.done}),(26,{ex:=[],mu:=[25],p:=tk [0,1,2,3,4,5,6,7,8,9,10,11,12,13,14,15,16,17,18,19,20,21,22,23,24]<|.eff 25<| .done}),(30,{ex:=[],mu:=[12],p:=tk [0,1,2,3,4,5,6,7,8,9,10,11]<|.eff 12<| .done}),(33,{ex:=[],mu:=[15],p:=tk [0,1,2,3,4,5,6,7,8,9,10,11,12,13,14]<|.eff 15<| .done}),(34,{ex:=[],mu:=[11],p:=tk [0,1,2,3,4,5,6,7,8,9,10]<|.eff 11<| .done}),(35,{ex:=[],mu:=[10],p:=tk [0,1,2,3,4,5,6,7,8,9]<|.eff 10<| .done}),(36,{ex:=[],mu:=[11],p:=tk [0,1,2,3,4,5,6,7,8,9,10]<|.eff 11<| .done})]}
theorem ok95:bQ3 mY9 (Tryz.f95.body.getD .skip)=true:=by kernel_rfl
def kL8:Fx:={n:=117,keep:=[0,1,2,3,4,5,6,7,8,10,11,15,20,28,49,50,51,52,69],plans:=[(9,{ex:=[8,12,16],mu:=[18],p:=tk [0,1,2,3,4,5,6,7,9,10,11,13,14,15]<|.fork3 8 12 16 (.fork 12 16 (.eff 16<| .take 17<| .eff 18<| .take 19<| .done) (.eff 12<| .take 17<| .eff 18<| .take 19<| .done)) (.fork 8 16 (.eff 16<| .take 17<| .eff 18<| .take 19<| .done) (.eff 8<| .take 17<| .eff 18<| .take 19<| .done)) (.fork 8 12 (.eff 12<| .take 17<| .eff 18<| .take 19<| .done) (.eff 8<| .take 17<| .eff 18<| .take 19<| .done))}),(14,{ex:=[],mu:=[9],p:=tk [0,1,2,3,4,5,6,7,8]<|.eff 9<| .take 10<| .done}),(15,{ex:=[14,15],mu:=[17],p:=tk [0,1,2,3,4,5,6,7,8,9,10,11,12,13]<|.eff 14<| .eff 15<| .take 16<| .eff 17<| .done}),(16,{ex:=[15,16],mu:=[18],p:=tk [0,1,2,3,4,5,6,7,8,9,10,11,12,13,14]<|.eff 15<| .eff 16<| .take 17<| .eff 18<| .done}),(17,{ex:=[],mu:=[10],p:=tk [0,1,2,3,4,5,6,7,8,9]<|.eff 10<| .done})]}
theorem lV2:bQ3 kL8 (Tryz.f108.body.getD .skip)=true:=by kernel_rfl
def lD6:Fx:={n:=29,keep:=[0,1,2,4,5,9,10,11,12,27],plans:=[]}
theorem mZ7:bQ3 lD6 (Tryz.f111.body.getD .skip)=true:=by kernel_rfl
def lD2:Fx:={n:=6,keep:=[0,1,2],plans:=[]}
theorem mZ3:bQ3 lD2 (Tryz.f120.body.getD .skip)=true:=by kernel_rfl
def lP8:Fx:={n:=29,keep:=[0,1,2,4,5,6,7,9,10,11,12,27],plans:=[]}
theorem mX9:bQ3 lP8 (Tryz.f124.body.getD .skip)=true:=by kernel_rfl
def lP6:Fx:={n:=23,keep:=[0,1,2,3,12],plans:=[(1,{ex:=[5],mu:=[6,10],p:=tk [0,1,2,3,4]<|.eff 5<| .eff 6<| tk [7,8,9]<|.eff 10<| .done})]}
theorem mX7:bQ3 lP6 (Tryz.f127.body.getD .skip)=true:=by kernel_rfl
def lP5:Fx:={n:=67,keep:=[0,1,2,3,6,7,8,12,13,19,25,31],plans:=[(11,{ex:=[],mu:=[],p:=tk [0,1,2,3,4,5,6,7,8,9,10,11,12,13,14,15,16,17,18,19,20,21,22,23,24,25,26,27,28,29,30,31]<|.done})]}
theorem mX6:bQ3 lP5 (Tryz.f128.body.getD .skip)=true:=by kernel_rfl
def lP3:Fx:={n:=49,keep:=[0,1,2,6,7,8,9,10,11,17,31],plans:=[]}
theorem mX4:bQ3 lP3 (Tryz.f130.body.getD .skip)=true:=by kernel_rfl
def lP1:Fx:={n:=14,keep:=[0,1,2,4],plans:=[]}
theorem mX2:bQ3 lP1 (Tryz.f134.body.getD .skip)=true:=by kernel_rfl
def lH5:Fx:={n:=46,keep:=[0,1,4,5,6,7,14,15,16,17],plans:=[(6,{ex:=[],mu:=[15],p:=tk [0,1,2,3,4,5,6,7,8,9,10,11,12,13,14]<|.eff 15<| .done})]}
theorem lL6:bQ3 lH5 (Tryz.f172.body.getD .skip)=true:=by kernel_rfl
def lH4:Fx:={n:=22,keep:=[0,1,2,3],plans:=[(1,{ex:=[],mu:=[],p:=tk [0,1,2,3,4,5,6,7,8,9,10,11,12,13,14,15,16,17,18]<|.done})]}
theorem lL5:bQ3 lH4 (Tryz.f173.body.getD .skip)=true:=by kernel_rfl
def lH0:Fx:={n:=42,keep:=[0,1,2,3,4,5,6,29],plans:=[]}
theorem lL1:bQ3 lH0 (Tryz.f184.body.getD .skip)=true:=by kernel_rfl
def lF7:Fx:={n:=15,keep:=[0,1,2,6],plans:=[]}
theorem lS8:bQ3 lF7 (Tryz.f188.body.getD .skip)=true:=by kernel_rfl
def lG2:Fx:={n:=6,keep:=[0,1,4],plans:=[]}
theorem lR2:bQ3 lG2 (Tryz.f234.body.getD .skip)=true:=by kernel_rfl
def lY4:Fx:={n:=19,keep:=[0,2,3],plans:=[]}
theorem lT4:bQ3 lY4 (Tryz.f243.body.getD .skip)=true:=by kernel_rfl
end Go.Proofs
end
