import Derived.Test.YtlbekjokdlkghaaGreatChipKnownLay
section
namespace Go.Proofs
open Go Go.Vx
def Tryz.fx10:Fx:={n:=231,keep:=[0,1,2,3,5,6,8,9,10,11,12,13,14,15,16,17,18,19,39,92,188],plans:=[]}
theorem Tryz.ok10:okCode Tryz.fx10 (Tryz.f10.body.getD .skip)=true:=by kernel_rfl
def Tryz.fx22:Fx:={n:=54,keep:=[0,1,2,3,6,7,8,9,11,12,20,24,31,32,33,34,40,41],plans:=[(1,{ex:=[2,4],mu:=[5],p:=.take 0<| .take 1<| .take 3<| .eff 2<| .eff 4<| .eff 5<| .take 6<| .done}),(12,{ex:=[7],mu:=[10],p:=.take 0<| .take 1<| .take 2<| .take 3<| .take 4<| .take 5<| .take 6<| .eff 7<| .take 8<| .take 9<| .eff 10<| .done})]}
theorem Tryz.ok22:okCode Tryz.fx22 (Tryz.f22.body.getD .skip)=true:=by kernel_rfl
def Tryz.fx53:Fx:={n:=7,keep:=[0,1,3],plans:=[]}
theorem Tryz.ok53:okCode Tryz.fx53 (Tryz.f53.body.getD .skip)=true:=by kernel_rfl
def Tryz.fx57:Fx:={n:=10,keep:=[0,1,2],plans:=[]}
theorem Tryz.ok57:okCode Tryz.fx57 (Tryz.f57.body.getD .skip)=true:=by kernel_rfl
def Tryz.fx60:Fx:={n:=6,keep:=[0,1,2,3,4],plans:=[]}
theorem Tryz.ok60:okCode Tryz.fx60 (Tryz.f60.body.getD .skip)=true:=by kernel_rfl
def Tryz.fx63:Fx:={n:=19,keep:=[0,1,4,5,7,8,9,16],plans:=[]}
theorem Tryz.ok63:okCode Tryz.fx63 (Tryz.f63.body.getD .skip)=true:=by kernel_rfl
def Tryz.fx65:Fx:={n:=19,keep:=[0,1,2,3,4,5,6,7,9,10,18],plans:=[(3,{ex:=[],mu:=[],p:=.take 0<| .take 1<| .take 2<| .take 3<| .take 4<| .take 5<| .take 6<| .take 7<| .done})]}
theorem Tryz.ok65:okCode Tryz.fx65 (Tryz.f65.body.getD .skip)=true:=by kernel_rfl
def Tryz.fx70:Fx:={n:=8,keep:=[0,1,2,3,4,5,6],plans:=[]}
theorem Tryz.ok70:okCode Tryz.fx70 (Tryz.f70.body.getD .skip)=true:=by kernel_rfl
def Tryz.fx78:Fx:={n:=81,keep:=[0,1,2,4,5,7,8,13,29,34,35,36,37,43,47,48,49,50,79],plans:=[]}
theorem Tryz.ok78:okCode Tryz.fx78 (Tryz.f78.body.getD .skip)=true:=by kernel_rfl
def Tryz.fx81:Fx:={n:=8,keep:=[0,2,4],plans:=[]}
theorem Tryz.ok81:okCode Tryz.fx81 (Tryz.f81.body.getD .skip)=true:=by kernel_rfl
def Tryz.fx82:Fx:={n:=38,keep:=[0,1,2,3,8,9,10],plans:=[]}
theorem Tryz.ok82:okCode Tryz.fx82 (Tryz.f82.body.getD .skip)=true:=by kernel_rfl
def Tryz.fx83:Fx:={n:=20,keep:=[0,1,4,5,16],plans:=[]}
theorem Tryz.ok83:okCode Tryz.fx83 (Tryz.f83.body.getD .skip)=true:=by kernel_rfl
def Tryz.fx84:Fx:={n:=7,keep:=[0,2],plans:=[]}
theorem Tryz.ok84:okCode Tryz.fx84 (Tryz.f84.body.getD .skip)=true:=by kernel_rfl
def Tryz.fx93:Fx:={n:=17,keep:=[0,1,4],plans:=[(1,{ex:=[],mu:=[],p:=.take 0<| .take 1<| .take 2<| .take 3<| .take 4<| .take 5<| .take 6<| .take 7<| .take 8<| .take 9<| .take 10<| .take 11<| .take 12<| .done})]}
theorem Tryz.ok93:okCode Tryz.fx93 (Tryz.f93.body.getD .skip)=true:=by kernel_rfl
def Tryz.fx95:Fx:={n:=263,keep:=[0,1,2,3,4,5,6,8,9,10,12,13,14,15,17,19,20,22,23,34,35,36,37,68,80,81,103,104,105,106,132,133,134,135],plans:=[(6,{ex:=[19],mu:=[14,20],p:=.take 0<| .take 1<| .take 2<| .take 3<| .take 4<| .take 5<| .take 6<| .take 7<| .take 8<| .take 9<| .take 10<| .take 11<| .take 12<| .take 13<| .fork 14 19 (.take 15<| .take 16<| .take 17<| .take 18<| .eff 19<| .eff 20<| .take 21<| .take 22<| .done) (.eff 14<| .take 15<| .take 16<| .take 17<| .take 18<| .eff 20<| .take 21<| .take 22<| .done)}),(7,{ex:=[],mu:=[6,10],p:=.take 0<| .take 1<| .take 2<| .take 3<| .take 4<| .take 5<| .take 7<| .take 8<| .eff 6<| .take 9<| .eff 10<| .done}),(9,{ex:=[5],mu:=[6,7],p:=.take 0<| .take 1<| .take 2<| .take 3<| .take 4<| .eff 5<| .eff 6<| .eff 7<| .done}),(15,{ex:=[20],mu:=[16,21],p:=.take 0<| .take 1<| .take 2<| .take 3<| .take 4<| .take 5<| .take 6<| .take 7<| .take 8<| .take 9<| .take 10<| .take 11<| .take 12<| .take 13<| .take 14<| .take 15<| .fork 16 20 (.take 17<| .take 18<| .take 19<| .eff 20<| .eff 21<| .take 22<| .done) (.eff 16<| .take 17<| .take 18<| .take 19<| .eff 21<| .take 22<| .done)}),(21,{ex:=[],mu:=[],p:=.take 0<| .take 1<| .take 2<| .take 3<| .take 4<| .take 5<| .take 6<| .take 7<| .take 8<| .done}),(22,{ex:=[],mu:=[],p:=.take 0<| .take 1<| .take 2<| .take 3<| .take 4<| .take 5<| .take 6<| .take 7<| .take 8<| .take 9<| .take 10<| .take 11<| .take 12<| .done}),(25,{ex:=[],mu:=[],p:=.take 0<| .take 1<| .take 2<| .take 3<| .take 4<| .take 5<| .take 6<| .take 7<| .take 8<| .done}),(26,{ex:=[],mu:=[25],p:=.take 0<| .take 1<| .take 2<| .take 3<| .take 4<| .take 5<| .take 6<| .take 7<| .take 8<| .take 9<| .take 10<| .take 11<| .take 12<| .take 13<| .take 14<| .take 15<| .take 16<| .take 17<| .take 18<| .take 19<| .take 20<| .take 21<| .take 22<| .take 23<| .take 24<| .eff 25<| .done}),(30,{ex:=[],mu:=[12],p:=.take 0<| .take 1<| .take 2<| .take 3<| .take 4<| .take 5<| .take 6<| .take 7<| .take 8<| .take 9<| .take 10<| .take 11<| .eff 12<| .done}),(33,{ex:=[],mu:=[15],p:=.take 0<| .take 1<| .take 2<| .take 3<| .take 4<| .take 5<| .take 6<| .take 7<| .take 8<| .take 9<| .take 10<| .take 11<| .take 12<| .take 13<| .take 14<| .eff 15<| .done}),(34,{ex:=[],mu:=[11],p:=.take 0<| .take 1<| .take 2<| .take 3<| .take 4<| .take 5<| .take 6<| .take 7<| .take 8<| .take 9<| .take 10<| .eff 11<| .done}),(35,{ex:=[],mu:=[10],p:=.take 0<| .take 1<| .take 2<| .take 3<| .take 4<| .take 5<| .take 6<| .take 7<| .take 8<| .take 9<| .eff 10<| .done}),(36,{ex:=[],mu:=[11],p:=.take 0<| .take 1<| .take 2<| .take 3<| .take 4<| .take 5<| .take 6<| .take 7<| .take 8<| .take 9<| .take 10<| .eff 11<| .done})]}
theorem Tryz.ok95:okCode Tryz.fx95 (Tryz.f95.body.getD .skip)=true:=by kernel_rfl
def Tryz.fx108:Fx:={n:=117,keep:=[0,1,2,3,4,5,6,7,8,10,11,15,20,28,49,50,51,52,69],plans:=[(9,{ex:=[8,12,16],mu:=[18],p:=.take 0<| .take 1<| .take 2<| .take 3<| .take 4<| .take 5<| .take 6<| .take 7<| .take 9<| .take 10<| .take 11<| .take 13<| .take 14<| .take 15<| .fork3 8 12 16 (.fork 12 16 (.eff 16<| .take 17<| .eff 18<| .take 19<| .done) (.eff 12<| .take 17<| .eff 18<| .take 19<| .done)) (.fork 8 16 (.eff 16<| .take 17<| .eff 18<| .take 19<| .done) (.eff 8<| .take 17<| .eff 18<| .take 19<| .done)) (.fork 8 12 (.eff 12<| .take 17<| .eff 18<| .take 19<| .done) (.eff 8<| .take 17<| .eff 18<| .take 19<| .done))}),(14,{ex:=[],mu:=[9],p:=.take 0<| .take 1<| .take 2<| .take 3<| .take 4<| .take 5<| .take 6<| .take 7<| .take 8<| .eff 9<| .take 10<| .done}),(15,{ex:=[14,15],mu:=[17],p:=.take 0<| .take 1<| .take 2<| .take 3<| .take 4<| .take 5<| .take 6<| .take 7<| .take 8<| .take 9<| .take 10<| .take 11<| .take 12<| .take 13<| .eff 14<| .eff 15<| .take 16<| .eff 17<| .done}),(16,{ex:=[15,16],mu:=[18],p:=.take 0<| .take 1<| .take 2<| .take 3<| .take 4<| .take 5<| .take 6<| .take 7<| .take 8<| .take 9<| .take 10<| .take 11<| .take 12<| .take 13<| .take 14<| .eff 15<| .eff 16<| .take 17<| .eff 18<| .done}),(17,{ex:=[],mu:=[10],p:=.take 0<| .take 1<| .take 2<| .take 3<| .take 4<| .take 5<| .take 6<| .take 7<| .take 8<| .take 9<| .eff 10<| .done})]}
theorem Tryz.ok108:okCode Tryz.fx108 (Tryz.f108.body.getD .skip)=true:=by kernel_rfl
def Tryz.fx111:Fx:={n:=29,keep:=[0,1,2,4,5,9,10,11,12,27],plans:=[]}
theorem Tryz.ok111:okCode Tryz.fx111 (Tryz.f111.body.getD .skip)=true:=by kernel_rfl
def Tryz.fx120:Fx:={n:=6,keep:=[0,1,2],plans:=[]}
theorem Tryz.ok120:okCode Tryz.fx120 (Tryz.f120.body.getD .skip)=true:=by kernel_rfl
def Tryz.fx124:Fx:={n:=29,keep:=[0,1,2,4,5,6,7,9,10,11,12,27],plans:=[]}
theorem Tryz.ok124:okCode Tryz.fx124 (Tryz.f124.body.getD .skip)=true:=by kernel_rfl
def Tryz.fx127:Fx:={n:=23,keep:=[0,1,2,3,12],plans:=[(1,{ex:=[5],mu:=[6,10],p:=.take 0<| .take 1<| .take 2<| .take 3<| .take 4<| .eff 5<| .eff 6<| .take 7<| .take 8<| .take 9<| .eff 10<| .done})]}
theorem Tryz.ok127:okCode Tryz.fx127 (Tryz.f127.body.getD .skip)=true:=by kernel_rfl
def Tryz.fx128:Fx:={n:=67,keep:=[0,1,2,3,6,7,8,12,13,19,25,31],plans:=[(11,{ex:=[],mu:=[],p:=.take 0<| .take 1<| .take 2<| .take 3<| .take 4<| .take 5<| .take 6<| .take 7<| .take 8<| .take 9<| .take 10<| .take 11<| .take 12<| .take 13<| .take 14<| .take 15<| .take 16<| .take 17<| .take 18<| .take 19<| .take 20<| .take 21<| .take 22<| .take 23<| .take 24<| .take 25<| .take 26<| .take 27<| .take 28<| .take 29<| .take 30<| .take 31<| .done})]}
theorem Tryz.ok128:okCode Tryz.fx128 (Tryz.f128.body.getD .skip)=true:=by kernel_rfl
def Tryz.fx130:Fx:={n:=49,keep:=[0,1,2,6,7,8,9,10,11,17,31],plans:=[]}
theorem Tryz.ok130:okCode Tryz.fx130 (Tryz.f130.body.getD .skip)=true:=by kernel_rfl
def Tryz.fx134:Fx:={n:=14,keep:=[0,1,2,4],plans:=[]}
theorem Tryz.ok134:okCode Tryz.fx134 (Tryz.f134.body.getD .skip)=true:=by kernel_rfl
def Tryz.fx172:Fx:={n:=46,keep:=[0,1,4,5,6,7,14,15,16,17],plans:=[(6,{ex:=[],mu:=[15],p:=.take 0<| .take 1<| .take 2<| .take 3<| .take 4<| .take 5<| .take 6<| .take 7<| .take 8<| .take 9<| .take 10<| .take 11<| .take 12<| .take 13<| .take 14<| .eff 15<| .done})]}
theorem Tryz.ok172:okCode Tryz.fx172 (Tryz.f172.body.getD .skip)=true:=by kernel_rfl
def Tryz.fx173:Fx:={n:=22,keep:=[0,1,2,3],plans:=[(1,{ex:=[],mu:=[],p:=.take 0<| .take 1<| .take 2<| .take 3<| .take 4<| .take 5<| .take 6<| .take 7<| .take 8<| .take 9<| .take 10<| .take 11<| .take 12<| .take 13<| .take 14<| .take 15<| .take 16<| .take 17<| .take 18<| .done})]}
theorem Tryz.ok173:okCode Tryz.fx173 (Tryz.f173.body.getD .skip)=true:=by kernel_rfl
def Tryz.fx184:Fx:={n:=42,keep:=[0,1,2,3,4,5,6,29],plans:=[]}
theorem Tryz.ok184:okCode Tryz.fx184 (Tryz.f184.body.getD .skip)=true:=by kernel_rfl
def Tryz.fx188:Fx:={n:=15,keep:=[0,1,2,6],plans:=[]}
theorem Tryz.ok188:okCode Tryz.fx188 (Tryz.f188.body.getD .skip)=true:=by kernel_rfl
def Tryz.fx234:Fx:={n:=6,keep:=[0,1,4],plans:=[]}
theorem Tryz.ok234:okCode Tryz.fx234 (Tryz.f234.body.getD .skip)=true:=by kernel_rfl
def Tryz.fx243:Fx:={n:=19,keep:=[0,2,3],plans:=[]}
theorem Tryz.ok243:okCode Tryz.fx243 (Tryz.f243.body.getD .skip)=true:=by kernel_rfl
end Go.Proofs
end

section
namespace Go.Proofs
open Go Go.Vx
def Tryz.fx17:Fx:={n:=70,keep:=[0,1,2,3,4,5,6,7,8,9,10,11,52,53,54,55,56],plans:=[(2,{ex:=[21,10],mu:=[],p:=.take 0<| .take 1<| .take 2<| .take 3<| .take 4<| .take 5<| .take 6<| .take 7<| .take 8<| .take 9<| .take 11<| .take 12<| .take 13<| .take 14<| .take 15<| .take 16<| .take 17<| .take 18<| .take 19<| .take 20<| .fork 10 21 (.take 22<| .eff 21<| .take 23<| .done) (.eff 10<| .take 22<| .take 23<| .done)})]}
theorem Tryz.ok17:okCode Tryz.fx17 (Tryz.f17.body.getD .skip)=true:=by kernel_rfl
def Tryz.fx27:Fx:={n:=199,keep:=[0,1,2,4,5,6,7,8,9,10,12,13,14,15,16,17,18,22,27,55,56,57,58,88,89,90,103,116,117,118],plans:=[(7,{ex:=[12,14,2,7],mu:=[15],p:=.take 0<| .take 1<| .take 3<| .take 4<| .take 5<| .take 6<| .take 9<| .take 10<| .take 11<| .fork3 2 12 14 (.fork3 7 12 14 (.take 8<| .fork 12 14 (.take 13<| .eff 14<| .eff 15<| .done) (.eff 12<| .take 13<| .eff 15<| .done)) (.fork 7 14 (.take 8<| .take 13<| .eff 14<| .eff 15<| .done) (.eff 7<| .take 8<| .take 13<| .eff 15<| .done)) (.fork 7 12 (.take 8<| .eff 12<| .take 13<| .eff 15<| .done) (.eff 7<| .take 8<| .take 13<| .eff 15<| .done))) (.fork 2 14 (.fork 7 14 (.take 8<| .take 13<| .eff 14<| .eff 15<| .done) (.eff 7<| .take 8<| .take 13<| .eff 15<| .done)) (.eff 2<| .eff 7<| .take 8<| .take 13<| .eff 15<| .done)) (.fork 2 12 (.fork 7 12 (.take 8<| .eff 12<| .take 13<| .eff 15<| .done) (.eff 7<| .take 8<| .take 13<| .eff 15<| .done)) (.eff 2<| .eff 7<| .take 8<| .take 13<| .eff 15<| .done))}),(8,{ex:=[7,3],mu:=[],p:=.take 0<| .take 1<| .take 2<| .take 4<| .take 5<| .take 6<| .fork 3 7 (.take 8<| .eff 7<| .take 9<| .done) (.eff 3<| .take 8<| .take 9<| .done)}),(12,{ex:=[10,18,23,25],mu:=[],p:=.take 0<| .take 1<| .take 2<| .take 3<| .take 4<| .take 5<| .take 6<| .take 7<| .take 8<| .take 9<| .take 11<| .take 12<| .take 14<| .take 15<| .take 16<| .take 17<| .take 19<| .take 20<| .fork 10 18 (.take 13<| .eff 18<| .take 21<| .take 22<| .eff 23<| .take 24<| .eff 25<| .done) (.take 21<| .eff 10<| .take 13<| .take 22<| .eff 23<| .take 24<| .eff 25<| .done)}),(18,{ex:=[],mu:=[10],p:=.take 0<| .take 1<| .take 2<| .take 3<| .take 4<| .take 5<| .take 6<| .take 7<| .take 8<| .take 9<| .eff 10<| .take 11<| .done}),(26,{ex:=[],mu:=[12],p:=.take 0<| .take 1<| .take 2<| .take 3<| .take 4<| .take 5<| .take 6<| .take 7<| .take 8<| .take 9<| .take 10<| .take 11<| .eff 12<| .take 13<| .done}),(28,{ex:=[],mu:=[15],p:=.take 0<| .take 1<| .take 2<| .take 3<| .take 4<| .take 5<| .take 6<| .take 7<| .take 8<| .take 9<| .take 10<| .take 11<| .take 12<| .take 13<| .take 14<| .eff 15<| .take 16<| .done}),(29,{ex:=[],mu:=[13],p:=.take 0<| .take 1<| .take 2<| .take 3<| .take 4<| .take 5<| .take 6<| .take 7<| .take 8<| .take 9<| .take 10<| .take 11<| .take 12<| .eff 13<| .done}),(30,{ex:=[],mu:=[17],p:=.take 0<| .take 1<| .take 2<| .take 3<| .take 4<| .take 5<| .take 6<| .take 7<| .take 8<| .take 9<| .take 10<| .take 11<| .take 12<| .take 13<| .take 14<| .take 15<| .take 16<| .eff 17<| .done})]}
theorem Tryz.ok27:okCode Tryz.fx27 (Tryz.f27.body.getD .skip)=true:=by kernel_rfl
def Tryz.fx32:Fx:={n:=250,keep:=[0,1,2,3,4,6,7,8,9,10,11,12,13,15,16,17,18,19,20,21,23,24,25,26,27,30,39,58,59,60,61,68,69,70,71,99,100,101,102,160,161,162,163,167,168,169,170,187,188,189,190,196,202,217,218,219,220,226],plans:=[(4,{ex:=[3],mu:=[10],p:=.take 0<| .take 1<| .take 2<| .take 4<| .take 5<| .take 7<| .take 8<| .eff 3<| .take 6<| .take 9<| .eff 10<| .take 11<| .done}),(13,{ex:=[14,15],mu:=[16],p:=.take 0<| .take 1<| .take 2<| .take 3<| .take 4<| .take 5<| .take 6<| .take 7<| .take 8<| .take 9<| .take 10<| .take 11<| .take 12<| .take 13<| .eff 14<| .eff 15<| .eff 16<| .done}),(20,{ex:=[],mu:=[13],p:=.take 0<| .take 1<| .take 2<| .take 3<| .take 4<| .take 5<| .take 6<| .take 7<| .take 8<| .take 9<| .take 10<| .take 11<| .take 12<| .eff 13<| .take 14<| .done}),(21,{ex:=[18,19],mu:=[22],p:=.take 0<| .take 1<| .take 2<| .take 3<| .take 4<| .take 5<| .take 6<| .take 7<| .take 8<| .take 9<| .take 10<| .take 11<| .take 12<| .take 13<| .take 14<| .take 15<| .take 16<| .take 17<| .eff 18<| .eff 19<| .take 20<| .take 21<| .eff 22<| .done}),(31,{ex:=[9,10],mu:=[12],p:=.take 0<| .take 1<| .take 2<| .take 3<| .take 4<| .take 5<| .take 6<| .take 7<| .take 8<| .eff 9<| .eff 10<| .take 11<| .eff 12<| .done}),(50,{ex:=[7],mu:=[8,12],p:=.take 0<| .take 1<| .take 2<| .take 3<| .take 4<| .take 5<| .take 6<| .eff 7<| .eff 8<| .take 9<| .take 10<| .take 11<| .eff 12<| .done})]}
theorem Tryz.ok32:okCode Tryz.fx32 (Tryz.f32.body.getD .skip)=true:=by kernel_rfl
def Tryz.fx36:Fx:={n:=77,keep:=[0,1,3,4,6,7,8,9,10,13,24,36,37,38,39,52,53,54,55],plans:=[(3,{ex:=[],mu:=[5],p:=.take 0<| .take 1<| .take 2<| .take 3<| .take 4<| .eff 5<| .take 6<| .take 7<| .take 8<| .take 9<| .take 10<| .done}),(14,{ex:=[],mu:=[16],p:=.take 0<| .take 1<| .take 2<| .take 3<| .take 4<| .take 5<| .take 6<| .take 7<| .take 8<| .take 9<| .take 10<| .take 11<| .take 12<| .take 13<| .take 14<| .take 15<| .eff 16<| .done})]}
theorem Tryz.ok36:okCode Tryz.fx36 (Tryz.f36.body.getD .skip)=true:=by kernel_rfl
def Tryz.fx45:Fx:={n:=3,keep:=[0],plans:=[]}
theorem Tryz.ok45:okCode Tryz.fx45 (Tryz.f45.body.getD .skip)=true:=by kernel_rfl
def Tryz.fx50:Fx:={n:=12,keep:=[0,1,4],plans:=[]}
theorem Tryz.ok50:okCode Tryz.fx50 (Tryz.f50.body.getD .skip)=true:=by kernel_rfl
def Tryz.fx51:Fx:={n:=9,keep:=[0,1,4],plans:=[]}
theorem Tryz.ok51:okCode Tryz.fx51 (Tryz.f51.body.getD .skip)=true:=by kernel_rfl
def Tryz.fx61:Fx:={n:=14,keep:=[0,1,2,3,4,6,7,10],plans:=[]}
theorem Tryz.ok61:okCode Tryz.fx61 (Tryz.f61.body.getD .skip)=true:=by kernel_rfl
def Tryz.fx62:Fx:={n:=62,keep:=[0,1,2,3,4,5,6,8,9,12,13,38,39,40,41],plans:=[(3,{ex:=[5,7,9],mu:=[],p:=.take 0<| .take 1<| .take 2<| .take 3<| .take 4<| .fork 5 7 (.take 6<| .eff 7<| .take 8<| .eff 9<| .done) (.take 8<| .eff 5<| .take 6<| .eff 9<| .done)}),(4,{ex:=[],mu:=[14],p:=.take 0<| .take 1<| .take 2<| .take 3<| .take 4<| .take 5<| .take 6<| .take 7<| .take 8<| .take 9<| .take 10<| .take 11<| .take 12<| .take 13<| .eff 14<| .done}),(9,{ex:=[],mu:=[9],p:=.take 0<| .take 1<| .take 2<| .take 3<| .take 4<| .take 5<| .take 6<| .take 7<| .take 8<| .eff 9<| .done})]}
theorem Tryz.ok62:okCode Tryz.fx62 (Tryz.f62.body.getD .skip)=true:=by kernel_rfl
def Tryz.fx64:Fx:={n:=11,keep:=[0,1,2,4],plans:=[]}
theorem Tryz.ok64:okCode Tryz.fx64 (Tryz.f64.body.getD .skip)=true:=by kernel_rfl
def Tryz.fx72:Fx:={n:=38,keep:=[0,1,4,5,7,26],plans:=[]}
theorem Tryz.ok72:okCode Tryz.fx72 (Tryz.f72.body.getD .skip)=true:=by kernel_rfl
def Tryz.fx73:Fx:={n:=26,keep:=[0,1,4,5,10,12,13,14,24],plans:=[(6,{ex:=[],mu:=[],p:=.take 0<| .take 1<| .take 2<| .take 3<| .take 4<| .take 5<| .take 6<| .take 7<| .take 8<| .done})]}
theorem Tryz.ok73:okCode Tryz.fx73 (Tryz.f73.body.getD .skip)=true:=by kernel_rfl
def Tryz.fx80:Fx:={n:=8,keep:=[0,2,4],plans:=[]}
theorem Tryz.ok80:okCode Tryz.fx80 (Tryz.f80.body.getD .skip)=true:=by kernel_rfl
def Tryz.fx86:Fx:={n:=32,keep:=[0,1,2,3,4,18,19],plans:=[(2,{ex:=[2,6],mu:=[8],p:=.take 0<| .take 1<| .take 3<| .take 4<| .take 5<| .fork 2 6 (.eff 6<| .take 7<| .eff 8<| .take 9<| .done) (.eff 2<| .take 7<| .eff 8<| .take 9<| .done)}),(6,{ex:=[],mu:=[5,9],p:=.take 0<| .take 1<| .take 2<| .take 3<| .take 4<| .take 6<| .take 7<| .eff 5<| .take 8<| .eff 9<| .done})]}
theorem Tryz.ok86:okCode Tryz.fx86 (Tryz.f86.body.getD .skip)=true:=by kernel_rfl
def Tryz.fx88:Fx:={n:=42,keep:=[0,1,4,5,22],plans:=[]}
theorem Tryz.ok88:okCode Tryz.fx88 (Tryz.f88.body.getD .skip)=true:=by kernel_rfl
def Tryz.fx89:Fx:={n:=13,keep:=[0,2],plans:=[]}
theorem Tryz.ok89:okCode Tryz.fx89 (Tryz.f89.body.getD .skip)=true:=by kernel_rfl
def Tryz.fx112:Fx:={n:=65,keep:=[0,1,2,6,7,9,15,27,28,29,30],plans:=[(7,{ex:=[6],mu:=[7,9],p:=.take 0<| .take 1<| .take 2<| .take 3<| .take 4<| .take 5<| .eff 6<| .eff 7<| .take 8<| .eff 9<| .done}),(11,{ex:=[],mu:=[9,14],p:=.take 0<| .take 1<| .take 2<| .take 3<| .take 4<| .take 5<| .take 6<| .take 7<| .take 8<| .eff 9<| .take 10<| .take 11<| .take 12<| .take 13<| .eff 14<| .done})]}
theorem Tryz.ok112:okCode Tryz.fx112 (Tryz.f112.body.getD .skip)=true:=by kernel_rfl
def Tryz.fx114:Fx:={n:=48,keep:=[0,1,2,3,6,7,8,9,10,17],plans:=[(4,{ex:=[6,7,2],mu:=[5,8,9],p:=.take 0<| .take 1<| .take 3<| .take 4<| .fork3 2 6 7 (.fork3 5 6 7 (.fork 6 7 (.eff 7<| .eff 8<| .eff 9<| .done) (.eff 6<| .eff 8<| .eff 9<| .done)) (.fork 5 7 (.eff 7<| .eff 8<| .eff 9<| .done) (.eff 5<| .eff 8<| .eff 9<| .done)) (.fork 5 6 (.eff 6<| .eff 8<| .eff 9<| .done) (.eff 5<| .eff 8<| .eff 9<| .done))) (.fork 2 7 (.fork 5 7 (.eff 7<| .eff 8<| .eff 9<| .done) (.eff 5<| .eff 8<| .eff 9<| .done)) (.eff 2<| .eff 5<| .eff 8<| .eff 9<| .done)) (.fork 2 6 (.fork 5 6 (.eff 6<| .eff 8<| .eff 9<| .done) (.eff 5<| .eff 8<| .eff 9<| .done)) (.eff 2<| .eff 5<| .eff 8<| .eff 9<| .done))})]}
theorem Tryz.ok114:okCode Tryz.fx114 (Tryz.f114.body.getD .skip)=true:=by kernel_rfl
def Tryz.fx115:Fx:={n:=24,keep:=[0,1,2,23],plans:=[]}
theorem Tryz.ok115:okCode Tryz.fx115 (Tryz.f115.body.getD .skip)=true:=by kernel_rfl
def Tryz.fx119:Fx:={n:=9,keep:=[0,1,4],plans:=[]}
theorem Tryz.ok119:okCode Tryz.fx119 (Tryz.f119.body.getD .skip)=true:=by kernel_rfl
def Tryz.fx122:Fx:={n:=9,keep:=[0,2],plans:=[]}
theorem Tryz.ok122:okCode Tryz.fx122 (Tryz.f122.body.getD .skip)=true:=by kernel_rfl
def Tryz.fx129:Fx:={n:=14,keep:=[0,1,2,4],plans:=[(1,{ex:=[],mu:=[9],p:=.take 0<| .take 1<| .take 2<| .take 3<| .take 4<| .take 5<| .take 6<| .take 7<| .take 8<| .eff 9<| .done})]}
theorem Tryz.ok129:okCode Tryz.fx129 (Tryz.f129.body.getD .skip)=true:=by kernel_rfl
def Tryz.fx138:Fx:={n:=30,keep:=[0,1,2,3,4,6,7,8,9,10,11,19],plans:=[]}
theorem Tryz.ok138:okCode Tryz.fx138 (Tryz.f138.body.getD .skip)=true:=by kernel_rfl
def Tryz.fx145:Fx:={n:=9,keep:=[0,1,4],plans:=[]}
theorem Tryz.ok145:okCode Tryz.fx145 (Tryz.f145.body.getD .skip)=true:=by kernel_rfl
def Tryz.fx146:Fx:={n:=6,keep:=[0,1,2,3,4],plans:=[]}
theorem Tryz.ok146:okCode Tryz.fx146 (Tryz.f146.body.getD .skip)=true:=by kernel_rfl
def Tryz.fx171:Fx:={n:=9,keep:=[0,1,4],plans:=[]}
theorem Tryz.ok171:okCode Tryz.fx171 (Tryz.f171.body.getD .skip)=true:=by kernel_rfl
def Tryz.fx177:Fx:={n:=61,keep:=[0,2,3,4,5,8,13,25,32,44],plans:=[(6,{ex:=[],mu:=[],p:=.take 0<| .take 1<| .take 2<| .take 3<| .take 4<| .take 5<| .take 6<| .take 7<| .take 8<| .take 9<| .done}),(11,{ex:=[],mu:=[],p:=.take 0<| .take 1<| .take 2<| .take 3<| .take 4<| .take 5<| .take 6<| .take 7<| .take 8<| .take 9<| .done})]}
theorem Tryz.ok177:okCode Tryz.fx177 (Tryz.f177.body.getD .skip)=true:=by kernel_rfl
def Tryz.fx178:Fx:={n:=31,keep:=[0,1,3,4,5,7,8,9,10,15,29],plans:=[]}
theorem Tryz.ok178:okCode Tryz.fx178 (Tryz.f178.body.getD .skip)=true:=by kernel_rfl
def Tryz.fx182:Fx:={n:=19,keep:=[0,1,4,5,7,8,9,16],plans:=[]}
theorem Tryz.ok182:okCode Tryz.fx182 (Tryz.f182.body.getD .skip)=true:=by kernel_rfl
def Tryz.fx187:Fx:={n:=15,keep:=[0,2,3,4,5,8,11],plans:=[]}
theorem Tryz.ok187:okCode Tryz.fx187 (Tryz.f187.body.getD .skip)=true:=by kernel_rfl
def Tryz.fx189:Fx:={n:=27,keep:=[0,1,2,3,4,5,6,7,13],plans:=[]}
theorem Tryz.ok189:okCode Tryz.fx189 (Tryz.f189.body.getD .skip)=true:=by kernel_rfl
def Tryz.fx190:Fx:={n:=93,keep:=[0,1,4,5,11,61,81],plans:=[(4,{ex:=[13,21],mu:=[28],p:=.take 0<| .take 1<| .take 2<| .take 3<| .take 4<| .take 5<| .take 6<| .take 7<| .take 8<| .take 9<| .take 10<| .take 11<| .take 12<| .take 14<| .take 15<| .take 16<| .take 17<| .take 18<| .take 20<| .take 23<| .take 24<| .take 25<| .take 26<| .take 27<| .eff 13<| .take 19<| .eff 21<| .take 22<| .eff 28<| .take 29<| .done}),(8,{ex:=[],mu:=[14],p:=.take 0<| .take 1<| .take 2<| .take 3<| .take 4<| .take 5<| .take 6<| .take 7<| .take 8<| .take 9<| .take 10<| .take 11<| .take 12<| .take 13<| .eff 14<| .done})]}
theorem Tryz.ok190:okCode Tryz.fx190 (Tryz.f190.body.getD .skip)=true:=by kernel_rfl
def Tryz.fx191:Fx:={n:=34,keep:=[0,1,2,3,4,5,7,9,11,12,13,14,20,22,23,24,25,32],plans:=[]}
theorem Tryz.ok191:okCode Tryz.fx191 (Tryz.f191.body.getD .skip)=true:=by kernel_rfl
def Tryz.fx196:Fx:={n:=33,keep:=[0,1,2,4,5,7,11,20,21,22,23,24,29,31],plans:=[]}
theorem Tryz.ok196:okCode Tryz.fx196 (Tryz.f196.body.getD .skip)=true:=by kernel_rfl
def Tryz.fx198:Fx:={n:=5,keep:=[0,2],plans:=[]}
theorem Tryz.ok198:okCode Tryz.fx198 (Tryz.f198.body.getD .skip)=true:=by kernel_rfl
def Tryz.fx199:Fx:={n:=8,keep:=[0,1,2,3,4,5,6],plans:=[]}
theorem Tryz.ok199:okCode Tryz.fx199 (Tryz.f199.body.getD .skip)=true:=by kernel_rfl
def Tryz.fx202:Fx:={n:=72,keep:=[0,1,2,3,8,9,10,22,33,37],plans:=[(8,{ex:=[6],mu:=[9],p:=.take 0<| .take 1<| .take 2<| .take 3<| .take 4<| .take 5<| .take 8<| .eff 6<| .take 7<| .eff 9<| .done})]}
theorem Tryz.ok202:okCode Tryz.fx202 (Tryz.f202.body.getD .skip)=true:=by kernel_rfl
def Tryz.fx221:Fx:={n:=19,keep:=[0,1,4,5,7,8,9,16],plans:=[]}
theorem Tryz.ok221:okCode Tryz.fx221 (Tryz.f221.body.getD .skip)=true:=by kernel_rfl
end Go.Proofs
end
