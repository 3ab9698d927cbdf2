import Derived.Test.YtlbekjokdlkghaaGreatChipKnownLay
namespace Go.Proofs
open Go Go.Vx
def Tryz.fx13:Fx:={n:=35,keep:=[0,1,2,3,4,5,6,10,11,12,13,14,15,27],plans:=[(4,{ex:=[],mu:=[6],p:=.take 0<| .take 1<| .take 2<| .take 3<| .take 4<| .take 5<| .eff 6<| .take 7<| .done})]}
theorem Tryz.ok13:okCode Tryz.fx13 (Tryz.f13.body.getD .skip)=true:=by kernel_rfl
def Tryz.fx20:Fx:={n:=273,keep:=[0,1,2,3,4,6,7,8,9,10,11,13,14,15,16,17,18,19,20,21,23,24,25,26,28,37,62,66,67,68,69,86,87,88,89,134,135,161,189,190,191,192,219,223,224,225,226,234,235,236,237,238,269],plans:=[(4,{ex:=[1,5,13,3,4],mu:=[11,14],p:=.take 0<| .take 2<| .take 6<| .take 7<| .take 8<| .take 9<| .take 10<| .fork3 1 5 13 (.fork3 3 5 13 (.fork3 4 5 13 (.fork 5 13 (.fork 11 13 (.take 12<| .eff 13<| .eff 14<| .done) (.eff 11<| .take 12<| .eff 14<| .done)) (.eff 5<| .eff 11<| .take 12<| .eff 14<| .done)) (.fork3 4 11 13 (.fork 11 13 (.take 12<| .eff 13<| .eff 14<| .done) (.eff 11<| .take 12<| .eff 14<| .done)) (.fork 4 13 (.take 12<| .eff 13<| .eff 14<| .done) (.eff 4<| .take 12<| .eff 14<| .done)) (.fork 4 11 (.eff 11<| .take 12<| .eff 14<| .done) (.eff 4<| .take 12<| .eff 14<| .done))) (.fork 4 5 (.eff 5<| .eff 11<| .take 12<| .eff 14<| .done) (.fork 4 11 (.eff 11<| .take 12<| .eff 14<| .done) (.eff 4<| .take 12<| .eff 14<| .done)))) (.fork 3 13 (.fork3 4 11 13 (.fork 11 13 (.take 12<| .eff 13<| .eff 14<| .done) (.eff 11<| .take 12<| .eff 14<| .done)) (.fork 4 13 (.take 12<| .eff 13<| .eff 14<| .done) (.eff 4<| .take 12<| .eff 14<| .done)) (.fork 4 11 (.eff 11<| .take 12<| .eff 14<| .done) (.eff 4<| .take 12<| .eff 14<| .done))) (.eff 3<| .fork 4 11 (.eff 11<| .take 12<| .eff 14<| .done) (.eff 4<| .take 12<| .eff 14<| .done))) (.fork 3 5 (.fork 4 5 (.eff 5<| .eff 11<| .take 12<| .eff 14<| .done) (.fork 4 11 (.eff 11<| .take 12<| .eff 14<| .done) (.eff 4<| .take 12<| .eff 14<| .done))) (.eff 3<| .fork 4 11 (.eff 11<| .take 12<| .eff 14<| .done) (.eff 4<| .take 12<| .eff 14<| .done)))) (.fork 1 13 (.fork 3 13 (.fork3 4 11 13 (.fork 11 13 (.take 12<| .eff 13<| .eff 14<| .done) (.eff 11<| .take 12<| .eff 14<| .done)) (.fork 4 13 (.take 12<| .eff 13<| .eff 14<| .done) (.eff 4<| .take 12<| .eff 14<| .done)) (.fork 4 11 (.eff 11<| .take 12<| .eff 14<| .done) (.eff 4<| .take 12<| .eff 14<| .done))) (.eff 3<| .fork 4 11 (.eff 11<| .take 12<| .eff 14<| .done) (.eff 4<| .take 12<| .eff 14<| .done))) (.eff 1<| .eff 3<| .fork 4 11 (.eff 11<| .take 12<| .eff 14<| .done) (.eff 4<| .take 12<| .eff 14<| .done))) (.fork 1 5 (.fork 3 5 (.fork 4 5 (.eff 5<| .eff 11<| .take 12<| .eff 14<| .done) (.fork 4 11 (.eff 11<| .take 12<| .eff 14<| .done) (.eff 4<| .take 12<| .eff 14<| .done))) (.eff 3<| .fork 4 11 (.eff 11<| .take 12<| .eff 14<| .done) (.eff 4<| .take 12<| .eff 14<| .done))) (.eff 1<| .eff 3<| .fork 4 11 (.eff 11<| .take 12<| .eff 14<| .done) (.eff 4<| .take 12<| .eff 14<| .done)))}),(19,{ex:=[11,27,28],mu:=[30],p:=.take 0<| .take 1<| .take 2<| .take 3<| .take 4<| .take 5<| .take 6<| .take 7<| .take 8<| .take 9<| .take 10<| .take 12<| .take 13<| .take 14<| .take 15<| .take 16<| .take 17<| .take 18<| .take 19<| .take 20<| .take 21<| .take 22<| .take 23<| .take 24<| .take 25<| .eff 11<| .take 26<| .eff 27<| .eff 28<| .take 29<| .eff 30<| .done}),(27,{ex:=[3],mu:=[6],p:=.take 0<| .take 1<| .take 2<| .eff 3<| .take 4<| .take 5<| .eff 6<| .done}),(33,{ex:=[],mu:=[7],p:=.take 0<| .take 1<| .take 2<| .take 3<| .take 4<| .take 5<| .take 6<| .eff 7<| .done}),(39,{ex:=[],mu:=[14],p:=.take 0<| .take 1<| .take 2<| .take 3<| .take 4<| .take 5<| .take 6<| .take 7<| .take 8<| .take 9<| .take 10<| .take 11<| .take 12<| .take 13<| .eff 14<| .done}),(54,{ex:=[5],mu:=[10],p:=.take 0<| .take 1<| .take 2<| .take 3<| .take 4<| .eff 5<| .take 6<| .take 7<| .take 8<| .take 9<| .eff 10<| .take 11<| .done}),(55,{ex:=[],mu:=[],p:=.take 0<| .take 1<| .take 2<| .take 3<| .take 4<| .take 5<| .take 6<| .take 7<| .take 8<| .take 9<| .take 10<| .take 11<| .take 12<| .done})]}
theorem Tryz.ok20:okCode Tryz.fx20 (Tryz.f20.body.getD .skip)=true:=by kernel_rfl
def Tryz.fx26:Fx:={n:=26,keep:=[0,1,4,5,10,14,25],plans:=[(6,{ex:=[],mu:=[],p:=.take 0<| .take 1<| .take 2<| .take 3<| .take 4<| .take 5<| .take 6<| .take 7<| .take 8<| .done})]}
theorem Tryz.ok26:okCode Tryz.fx26 (Tryz.f26.body.getD .skip)=true:=by kernel_rfl
def Tryz.fx28:Fx:={n:=53,keep:=[0,1,2,3,6,7,8,9,10,11,12,14,20,27,28,29,35,36,37,38,50],plans:=[]}
theorem Tryz.ok28:okCode Tryz.fx28 (Tryz.f28.body.getD .skip)=true:=by kernel_rfl
def Tryz.fx29:Fx:={n:=12,keep:=[0,1,2,3,4,8],plans:=[]}
theorem Tryz.ok29:okCode Tryz.fx29 (Tryz.f29.body.getD .skip)=true:=by kernel_rfl
def Tryz.fx33:Fx:={n:=79,keep:=[0,2,3,4,6,7,8,10,13,25,26,27,28,41,42,48,49,50,51],plans:=[(7,{ex:=[6],mu:=[7,9],p:=.take 0<| .take 1<| .take 2<| .take 3<| .take 4<| .take 5<| .eff 6<| .eff 7<| .take 8<| .eff 9<| .done}),(16,{ex:=[],mu:=[14,15],p:=.take 0<| .take 1<| .take 2<| .take 3<| .take 4<| .take 5<| .take 6<| .take 7<| .take 8<| .take 9<| .take 10<| .take 11<| .take 12<| .take 13<| .eff 14<| .eff 15<| .take 16<| .done})]}
theorem Tryz.ok33:okCode Tryz.fx33 (Tryz.f33.body.getD .skip)=true:=by kernel_rfl
def Tryz.fx41:Fx:={n:=11,keep:=[0,2,5],plans:=[]}
theorem Tryz.ok41:okCode Tryz.fx41 (Tryz.f41.body.getD .skip)=true:=by kernel_rfl
def Tryz.fx46:Fx:={n:=85,keep:=[0,2,3,4,5,6,7,8,9,12,26,28,46,47,48,49],plans:=[(8,{ex:=[9],mu:=[10],p:=.take 0<| .take 1<| .take 2<| .take 3<| .take 4<| .take 5<| .take 6<| .take 7<| .take 8<| .eff 9<| .eff 10<| .done}),(14,{ex:=[],mu:=[],p:=.take 0<| .take 1<| .take 2<| .take 3<| .take 4<| .take 5<| .take 6<| .take 7<| .take 8<| .take 9<| .take 10<| .take 11<| .take 12<| .done})]}
theorem Tryz.ok46:okCode Tryz.fx46 (Tryz.f46.body.getD .skip)=true:=by kernel_rfl
def Tryz.fx52:Fx:={n:=36,keep:=[0,2,3,5,6,8,9,10,11,12,20,25,26,27,28],plans:=[]}
theorem Tryz.ok52:okCode Tryz.fx52 (Tryz.f52.body.getD .skip)=true:=by kernel_rfl
def Tryz.fx55:Fx:={n:=23,keep:=[0,1,2,3,4,6,7,8,9,17],plans:=[]}
theorem Tryz.ok55:okCode Tryz.fx55 (Tryz.f55.body.getD .skip)=true:=by kernel_rfl
def Tryz.fx56:Fx:={n:=8,keep:=[0,2,4],plans:=[]}
theorem Tryz.ok56:okCode Tryz.fx56 (Tryz.f56.body.getD .skip)=true:=by kernel_rfl
def Tryz.fx58:Fx:={n:=48,keep:=[0,1,4,5,6,7,8,10,26,37],plans:=[(9,{ex:=[],mu:=[7],p:=.take 0<| .take 1<| .take 2<| .take 3<| .take 4<| .take 5<| .take 6<| .eff 7<| .take 8<| .take 9<| .done})]}
theorem Tryz.ok58:okCode Tryz.fx58 (Tryz.f58.body.getD .skip)=true:=by kernel_rfl
def Tryz.fx66:Fx:={n:=106,keep:=[0,1,2,4,5,6,7,9,10,11,12,13,14,15,19,23,25,26,27,28,38,43,54,68,69,70,73,75,83],plans:=[(27,{ex:=[12],mu:=[13,15],p:=.take 0<| .take 1<| .take 2<| .take 3<| .take 4<| .take 5<| .take 6<| .take 7<| .take 8<| .take 9<| .take 10<| .take 11<| .eff 12<| .eff 13<| .take 14<| .eff 15<| .done})]}
theorem Tryz.ok66:okCode Tryz.fx66 (Tryz.f66.body.getD .skip)=true:=by kernel_rfl
def Tryz.fx69:Fx:={n:=31,keep:=[0,1,2,4,5,7,11,13,14,15,16,29],plans:=[]}
theorem Tryz.ok69:okCode Tryz.fx69 (Tryz.f69.body.getD .skip)=true:=by kernel_rfl
def Tryz.fx71:Fx:={n:=39,keep:=[0,1,2,3,6,7,8,15,21,27,33],plans:=[(1,{ex:=[6,7,2],mu:=[5,8,9],p:=.take 0<| .take 1<| .take 3<| .take 4<| .fork3 2 6 7 (.fork3 5 6 7 (.fork 6 7 (.eff 7<| .eff 8<| .eff 9<| .done) (.eff 6<| .eff 8<| .eff 9<| .done)) (.fork 5 7 (.eff 7<| .eff 8<| .eff 9<| .done) (.eff 5<| .eff 8<| .eff 9<| .done)) (.fork 5 6 (.eff 6<| .eff 8<| .eff 9<| .done) (.eff 5<| .eff 8<| .eff 9<| .done))) (.fork 2 7 (.fork 5 7 (.eff 7<| .eff 8<| .eff 9<| .done) (.eff 5<| .eff 8<| .eff 9<| .done)) (.eff 2<| .eff 5<| .eff 8<| .eff 9<| .done)) (.fork 2 6 (.fork 5 6 (.eff 6<| .eff 8<| .eff 9<| .done) (.eff 5<| .eff 8<| .eff 9<| .done)) (.eff 2<| .eff 5<| .eff 8<| .eff 9<| .done))})]}
theorem Tryz.ok71:okCode Tryz.fx71 (Tryz.f71.body.getD .skip)=true:=by kernel_rfl
def Tryz.fx79:Fx:={n:=15,keep:=[0,1,2,6],plans:=[]}
theorem Tryz.ok79:okCode Tryz.fx79 (Tryz.f79.body.getD .skip)=true:=by kernel_rfl
def Tryz.fx87:Fx:={n:=85,keep:=[0,1,2,4,5,6,7,8,9,10,12,15,16,17,18,50,63,64],plans:=[(6,{ex:=[21],mu:=[16,22],p:=.take 0<| .take 1<| .take 2<| .take 3<| .take 4<| .take 5<| .take 6<| .take 7<| .take 8<| .take 9<| .take 10<| .take 11<| .take 12<| .take 13<| .take 14<| .take 15<| .fork 16 21 (.take 17<| .take 18<| .take 19<| .take 20<| .eff 21<| .eff 22<| .take 23<| .take 24<| .done) (.eff 16<| .take 17<| .take 18<| .take 19<| .take 20<| .eff 22<| .take 23<| .take 24<| .done)}),(7,{ex:=[],mu:=[7],p:=.take 0<| .take 1<| .take 2<| .take 3<| .take 4<| .take 5<| .take 6<| .eff 7<| .done}),(14,{ex:=[3],mu:=[12],p:=.take 0<| .take 1<| .take 2<| .take 4<| .take 5<| .take 8<| .take 9<| .eff 3<| .take 6<| .take 7<| .take 10<| .take 11<| .eff 12<| .done})]}
theorem Tryz.ok87:okCode Tryz.fx87 (Tryz.f87.body.getD .skip)=true:=by kernel_rfl
def Tryz.fx90:Fx:={n:=34,keep:=[0,1,2,4,5,6,7,8,9,10,14,21],plans:=[]}
theorem Tryz.ok90:okCode Tryz.fx90 (Tryz.f90.body.getD .skip)=true:=by kernel_rfl
def Tryz.fx91:Fx:={n:=14,keep:=[0,2],plans:=[]}
theorem Tryz.ok91:okCode Tryz.fx91 (Tryz.f91.body.getD .skip)=true:=by kernel_rfl
def Tryz.fx102:Fx:={n:=2,keep:=[0],plans:=[]}
theorem Tryz.ok102:okCode Tryz.fx102 (Tryz.f102.body.getD .skip)=true:=by kernel_rfl
def Tryz.fx107:Fx:={n:=27,keep:=[0,1,4,6,16],plans:=[]}
theorem Tryz.ok107:okCode Tryz.fx107 (Tryz.f107.body.getD .skip)=true:=by kernel_rfl
def Tryz.fx109:Fx:={n:=46,keep:=[0,1,2,4,6,15,16,17,18,19,22,32,45],plans:=[]}
theorem Tryz.ok109:okCode Tryz.fx109 (Tryz.f109.body.getD .skip)=true:=by kernel_rfl
def Tryz.fx110:Fx:={n:=30,keep:=[0,1,4,5,6,7,8,9],plans:=[]}
theorem Tryz.ok110:okCode Tryz.fx110 (Tryz.f110.body.getD .skip)=true:=by kernel_rfl
def Tryz.fx113:Fx:={n:=4,keep:=[0,1,2],plans:=[]}
theorem Tryz.ok113:okCode Tryz.fx113 (Tryz.f113.body.getD .skip)=true:=by kernel_rfl
def Tryz.fx121:Fx:={n:=32,keep:=[0,1,2],plans:=[]}
theorem Tryz.ok121:okCode Tryz.fx121 (Tryz.f121.body.getD .skip)=true:=by kernel_rfl
def Tryz.fx131:Fx:={n:=9,keep:=[0,1,2,4],plans:=[]}
theorem Tryz.ok131:okCode Tryz.fx131 (Tryz.f131.body.getD .skip)=true:=by kernel_rfl
def Tryz.fx133:Fx:={n:=70,keep:=[0,1,2,3,4,5,6,20,28,69],plans:=[(4,{ex:=[],mu:=[],p:=.take 0<| .take 1<| .take 2<| .take 3<| .take 4<| .take 5<| .take 6<| .done})]}
theorem Tryz.ok133:okCode Tryz.fx133 (Tryz.f133.body.getD .skip)=true:=by kernel_rfl
def Tryz.fx142:Fx:={n:=25,keep:=[0,1,2,3,4,5,9,24],plans:=[]}
theorem Tryz.ok142:okCode Tryz.fx142 (Tryz.f142.body.getD .skip)=true:=by kernel_rfl
def Tryz.fx170:Fx:={n:=57,keep:=[0,1,2,3,4,5,10,33,35,36,37,38,42,49],plans:=[]}
theorem Tryz.ok170:okCode Tryz.fx170 (Tryz.f170.body.getD .skip)=true:=by kernel_rfl
def Tryz.fx183:Fx:={n:=11,keep:=[0,1,2,3],plans:=[]}
theorem Tryz.ok183:okCode Tryz.fx183 (Tryz.f183.body.getD .skip)=true:=by kernel_rfl
def Tryz.fx185:Fx:={n:=33,keep:=[0,1,2,6,7,16],plans:=[(5,{ex:=[],mu:=[6],p:=.take 0<| .take 1<| .take 2<| .take 3<| .take 4<| .take 5<| .eff 6<| .take 7<| .done})]}
theorem Tryz.ok185:okCode Tryz.fx185 (Tryz.f185.body.getD .skip)=true:=by kernel_rfl
def Tryz.fx194:Fx:={n:=19,keep:=[0,1,4,5,7,8,9,16],plans:=[]}
theorem Tryz.ok194:okCode Tryz.fx194 (Tryz.f194.body.getD .skip)=true:=by kernel_rfl
def Tryz.fx233:Fx:={n:=8,keep:=[0,2],plans:=[]}
theorem Tryz.ok233:okCode Tryz.fx233 (Tryz.f233.body.getD .skip)=true:=by kernel_rfl
def Tryz.fx237:Fx:={n:=12,keep:=[0,1,2,6],plans:=[]}
theorem Tryz.ok237:okCode Tryz.fx237 (Tryz.f237.body.getD .skip)=true:=by kernel_rfl
def Tryz.fx239:Fx:={n:=13,keep:=[0,1,2,4,5,6,7],plans:=[]}
theorem Tryz.ok239:okCode Tryz.fx239 (Tryz.f239.body.getD .skip)=true:=by kernel_rfl
def Tryz.fx240:Fx:={n:=72,keep:=[0,1,2,3,6,7,8,9,11,13,14,15,16,42,49,50,51,52,70],plans:=[(4,{ex:=[],mu:=[],p:=.take 0<| .take 1<| .take 2<| .take 3<| .take 4<| .take 5<| .take 6<| .take 7<| .take 8<| .take 9<| .take 10<| .done}),(5,{ex:=[],mu:=[5],p:=.take 0<| .take 1<| .take 2<| .take 3<| .take 4<| .eff 5<| .done}),(8,{ex:=[],mu:=[],p:=.take 0<| .take 1<| .take 2<| .take 3<| .take 4<| .take 5<| .take 6<| .take 7<| .done}),(11,{ex:=[],mu:=[13],p:=.take 0<| .take 1<| .take 2<| .take 3<| .take 4<| .take 5<| .take 6<| .take 7<| .take 8<| .take 9<| .take 10<| .take 11<| .take 12<| .yld 13<| .take 14<| .take 15<| .done})]}
theorem Tryz.ok240:okCode Tryz.fx240 (Tryz.f240.body.getD .skip)=true:=by kernel_rfl
def Tryz.fx241:Fx:={n:=25,keep:=[0,1,3,4,11],plans:=[(1,{ex:=[],mu:=[],p:=.take 0<| .take 1<| .take 2<| .take 3<| .take 4<| .take 5<| .take 6<| .done}),(2,{ex:=[6],mu:=[7],p:=.take 0<| .take 1<| .take 2<| .take 3<| .take 4<| .take 5<| .eff 6<| .eff 7<| .done}),(3,{ex:=[],mu:=[],p:=.take 0<| .take 1<| .take 2<| .take 3<| .take 4<| .take 5<| .take 6<| .done})]}
theorem Tryz.ok241:okCode Tryz.fx241 (Tryz.f241.body.getD .skip)=true:=by kernel_rfl
def Tryz.fx244:Fx:={n:=9,keep:=[0,2,4],plans:=[]}
theorem Tryz.ok244:okCode Tryz.fx244 (Tryz.f244.body.getD .skip)=true:=by kernel_rfl
def Tryz.fx267:Fx:={n:=35,keep:=[0,2],plans:=[]}
theorem Tryz.ok267:okCode Tryz.fx267 (Tryz.f267.body.getD .skip)=true:=by kernel_rfl
end Go.Proofs
