import Derived.Test.YtlbekjokdlkghaaGreatChipSameLay
import Derived.Test.YtlbekjokdlkghaaGreatChipSameFx2
section
namespace Go.Proofs
open Go Go.Vx
def Tryz.fx11:Fx:={n:=56,keep:=[0,1,2],plans:=[]}
theorem Tryz.ok11:okCode Tryz.fx11 (Tryz.f11.body.getD .skip)=true:=by kernel_rfl
def Tryz.fx17:Fx:={n:=70,keep:=[0,1,2,3,4,5,6,7,8,9,10,11,52,53,54,55,56],plans:=[(2,{ex:=[21,10],mu:=[],p:=.take 0<| .take 1<| .take 2<| .take 3<| .take 4<| .take 5<| .take 6<| .take 7<| .take 8<| .take 9<| .take 11<| .take 12<| .take 13<| .take 14<| .take 15<| .take 16<| .take 17<| .take 18<| .take 19<| .take 20<| .fork 10 21 (.take 22<| .eff 21<| .take 23<| .done) (.eff 10<| .take 22<| .take 23<| .done)})]}
theorem Tryz.ok17:okCode Tryz.fx17 (Tryz.f17.body.getD .skip)=true:=by kernel_rfl
def Tryz.fx27:Fx:={n:=199,keep:=[0,1,2,4,5,6,7,8,9,10,12,13,14,15,16,17,18,22,27,55,56,57,58,88,89,90,103,116,117,118],plans:=[(7,{ex:=[12,14,2,7],mu:=[15],p:=.take 0<| .take 1<| .take 3<| .take 4<| .take 5<| .take 6<| .take 9<| .take 10<| .take 11<| .fork3 2 12 14 (.fork3 7 12 14 (.take 8<| .fork 12 14 (.take 13<| .eff 14<| .eff 15<| .done) (.eff 12<| .take 13<| .eff 15<| .done)) (.fork 7 14 (.take 8<| .take 13<| .eff 14<| .eff 15<| .done) (.eff 7<| .take 8<| .take 13<| .eff 15<| .done)) (.fork 7 12 (.take 8<| .eff 12<| .take 13<| .eff 15<| .done) (.eff 7<| .take 8<| .take 13<| .eff 15<| .done))) (.fork 2 14 (.fork 7 14 (.take 8<| .take 13<| .eff 14<| .eff 15<| .done) (.eff 7<| .take 8<| .take 13<| .eff 15<| .done)) (.eff 2<| .eff 7<| .take 8<| .take 13<| .eff 15<| .done)) (.fork 2 12 (.fork 7 12 (.take 8<| .eff 12<| .take 13<| .eff 15<| .done) (.eff 7<| .take 8<| .take 13<| .eff 15<| .done)) (.eff 2<| .eff 7<| .take 8<| .take 13<| .eff 15<| .done))}),(8,{ex:=[7,3],mu:=[],p:=.take 0<| .take 1<| .take 2<| .take 4<| .take 5<| .take 6<| .fork 3 7 (.take 8<| .eff 7<| .take 9<| .done) (.eff 3<| .take 8<| .take 9<| .done)}),(12,{ex:=[10,18,23,25],mu:=[],p:=.take 0<| .take 1<| .take 2<| .take 3<| .take 4<| .take 5<| .take 6<| .take 7<| .take 8<| .take 9<| .take 11<| .take 12<| .take 14<| .take 15<| .take 16<| .take 17<| .take 19<| .take 20<| .fork 10 18 (.take 13<| .eff 18<| .take 21<| .take 22<| .eff 23<| .take 24<| .eff 25<| .done) (.take 21<| .eff 10<| .take 13<| .take 22<| .eff 23<| .take 24<| .eff 25<| .done)}),(18,{ex:=[],mu:=[10],p:=.take 0<| .take 1<| .take 2<| .take 3<| .take 4<| .take 5<| .take 6<| .take 7<| .take 8<| .take 9<| .eff 10<| .take 11<| .done}),(26,{ex:=[],mu:=[12],p:=.take 0<| .take 1<| .take 2<| .take 3<| .take 4<| .take 5<| .take 6<| .take 7<| .take 8<| .take 9<| .take 10<| .take 11<| .eff 12<| .take 13<| .done}),(28,{ex:=[],mu:=[15],p:=.take 0<| .take 1<| .take 2<| .take 3<| .take 4<| .take 5<| .take 6<| .take 7<| .take 8<| .take 9<| .take 10<| .take 11<| .take 12<| .take 13<| .take 14<| .eff 15<| .take 16<| .done}),(29,{ex:=[],mu:=[13],p:=.take 0<| .take 1<| .take 2<| .take 3<| .take 4<| .take 5<| .take 6<| .take 7<| .take 8<| .take 9<| .take 10<| .take 11<| .take 12<| .eff 13<| .done}),(30,{ex:=[],mu:=[17],p:=.take 0<| .take 1<| .take 2<| .take 3<| .take 4<| .take 5<| .take 6<| .take 7<| .take 8<| .take 9<| .take 10<| .take 11<| .take 12<| .take 13<| .take 14<| .take 15<| .take 16<| .eff 17<| .done})]}
theorem Tryz.ok27:okCode Tryz.fx27 (Tryz.f27.body.getD .skip)=true:=by kernel_rfl
def Tryz.fx32:Fx:={n:=250,keep:=[0,1,2,3,4,6,7,8,9,10,11,12,13,15,16,17,18,19,20,21,23,24,25,26,27,30,39,58,59,60,61,68,69,70,71,99,100,101,102,160,161,162,163,167,168,169,170,187,188,189,190,196,202,217,218,219,220,226],plans:=[(4,{ex:=[3],mu:=[10],p:=.take 0<| .take 1<| .take 2<| .take 4<| .take 5<| .take 7<| .take 8<| .eff 3<| .take 6<| .take 9<| .eff 10<| .take 11<| .done}),(13,{ex:=[14,15],mu:=[16],p:=.take 0<| .take 1<| .take 2<| .take 3<| .take 4<| .take 5<| .take 6<| .take 7<| .take 8<| .take 9<| .take 10<| .take 11<| .take 12<| .take 13<| .eff 14<| .eff 15<| .eff 16<| .done}),(20,{ex:=[],mu:=[13],p:=.take 0<| .take 1<| .take 2<| .take 3<| .take 4<| .take 5<| .take 6<| .take 7<| .take 8<| .take 9<| .take 10<| .take 11<| .take 12<| .eff 13<| .take 14<| .done}),(21,{ex:=[18,19],mu:=[22],p:=.take 0<| .take 1<| .take 2<| .take 3<| .take 4<| .take 5<| .take 6<| .take 7<| .take 8<| .take 9<| .take 10<| .take 11<| .take 12<| .take 13<| .take 14<| .take 15<| .take 16<| .take 17<| .eff 18<| .eff 19<| .take 20<| .take 21<| .eff 22<| .done}),(31,{ex:=[9,10],mu:=[12],p:=.take 0<| .take 1<| .take 2<| .take 3<| .take 4<| .take 5<| .take 6<| .take 7<| .take 8<| .eff 9<| .eff 10<| .take 11<| .eff 12<| .done}),(50,{ex:=[7],mu:=[8,12],p:=.take 0<| .take 1<| .take 2<| .take 3<| .take 4<| .take 5<| .take 6<| .eff 7<| .eff 8<| .take 9<| .take 10<| .take 11<| .eff 12<| .done})]}
theorem Tryz.ok32:okCode Tryz.fx32 (Tryz.f32.body.getD .skip)=true:=by kernel_rfl
def Tryz.fx45:Fx:={n:=3,keep:=[0],plans:=[]}
theorem Tryz.ok45:okCode Tryz.fx45 (Tryz.f45.body.getD .skip)=true:=by kernel_rfl
def Tryz.fx50:Fx:={n:=12,keep:=[0,1,4],plans:=[]}
theorem Tryz.ok50:okCode Tryz.fx50 (Tryz.f50.body.getD .skip)=true:=by kernel_rfl
def Tryz.fx51:Fx:={n:=9,keep:=[0,1,4],plans:=[]}
theorem Tryz.ok51:okCode Tryz.fx51 (Tryz.f51.body.getD .skip)=true:=by kernel_rfl
def Tryz.fx61:Fx:={n:=14,keep:=[0,1,2,3,4,6,7,10],plans:=[]}
theorem Tryz.ok61:okCode Tryz.fx61 (Tryz.f61.body.getD .skip)=true:=by kernel_rfl
def Tryz.fx62:Fx:={n:=62,keep:=[0,1,2,3,4,5,6,8,9,12,13,38,39,40,41],plans:=[(3,{ex:=[5,7,9],mu:=[],p:=.take 0<| .take 1<| .take 2<| .take 3<| .take 4<| .fork 5 7 (.take 6<| .eff 7<| .take 8<| .eff 9<| .done) (.take 8<| .eff 5<| .take 6<| .eff 9<| .done)}),(4,{ex:=[],mu:=[14],p:=.take 0<| .take 1<| .take 2<| .take 3<| .take 4<| .take 5<| .take 6<| .take 7<| .take 8<| .take 9<| .take 10<| .take 11<| .take 12<| .take 13<| .eff 14<| .done}),(9,{ex:=[],mu:=[9],p:=.take 0<| .take 1<| .take 2<| .take 3<| .take 4<| .take 5<| .take 6<| .take 7<| .take 8<| .eff 9<| .done})]}
theorem Tryz.ok62:okCode Tryz.fx62 (Tryz.f62.body.getD .skip)=true:=by kernel_rfl
def Tryz.fx64:Fx:={n:=11,keep:=[0,1,2,4],plans:=[]}
theorem Tryz.ok64:okCode Tryz.fx64 (Tryz.f64.body.getD .skip)=true:=by kernel_rfl
def Tryz.fx72:Fx:={n:=38,keep:=[0,1,4,5,7,26],plans:=[]}
theorem Tryz.ok72:okCode Tryz.fx72 (Tryz.f72.body.getD .skip)=true:=by kernel_rfl
def Tryz.fx73:Fx:={n:=26,keep:=[0,1,4,5,10,12,13,14,24],plans:=[(6,{ex:=[],mu:=[],p:=.take 0<| .take 1<| .take 2<| .take 3<| .take 4<| .take 5<| .take 6<| .take 7<| .take 8<| .done})]}
theorem Tryz.ok73:okCode Tryz.fx73 (Tryz.f73.body.getD .skip)=true:=by kernel_rfl
def Tryz.fx80:Fx:={n:=8,keep:=[0,2,4],plans:=[]}
theorem Tryz.ok80:okCode Tryz.fx80 (Tryz.f80.body.getD .skip)=true:=by kernel_rfl
def Tryz.fx86:Fx:={n:=32,keep:=[0,1,2,3,4,18,19],plans:=[(2,{ex:=[2,6],mu:=[8],p:=.take 0<| .take 1<| .take 3<| .take 4<| .take 5<| .fork 2 6 (.eff 6<| .take 7<| .eff 8<| .take 9<| .done) (.eff 2<| .take 7<| .eff 8<| .take 9<| .done)}),(6,{ex:=[],mu:=[5,9],p:=.take 0<| .take 1<| .take 2<| .take 3<| .take 4<| .take 6<| .take 7<| .eff 5<| .take 8<| .eff 9<| .done})]}
theorem Tryz.ok86:okCode Tryz.fx86 (Tryz.f86.body.getD .skip)=true:=by kernel_rfl
def Tryz.fx88:Fx:={n:=42,keep:=[0,1,4,5,22],plans:=[]}
theorem Tryz.ok88:okCode Tryz.fx88 (Tryz.f88.body.getD .skip)=true:=by kernel_rfl
def Tryz.fx89:Fx:={n:=13,keep:=[0,2],plans:=[]}
theorem Tryz.ok89:okCode Tryz.fx89 (Tryz.f89.body.getD .skip)=true:=by kernel_rfl
def Tryz.fx112:Fx:={n:=65,keep:=[0,1,2,6,7,9,15,27,28,29,30],plans:=[(7,{ex:=[6],mu:=[7,9],p:=.take 0<| .take 1<| .take 2<| .take 3<| .take 4<| .take 5<| .eff 6<| .eff 7<| .take 8<| .eff 9<| .done}),(11,{ex:=[],mu:=[9,14],p:=.take 0<| .take 1<| .take 2<| .take 3<| .take 4<| .take 5<| .take 6<| .take 7<| .take 8<| .eff 9<| .take 10<| .take 11<| .take 12<| .take 13<| .eff 14<| .done})]}
theorem Tryz.ok112:okCode Tryz.fx112 (Tryz.f112.body.getD .skip)=true:=by kernel_rfl
def Tryz.fx114:Fx:={n:=48,keep:=[0,1,2,3,6,7,8,9,10,17],plans:=[(4,{ex:=[6,7,2],mu:=[5,8,9],p:=.take 0<| .take 1<| .take 3<| .take 4<| .fork3 2 6 7 (.fork3 5 6 7 (.fork 6 7 (.eff 7<| .eff 8<| .eff 9<| .done) (.eff 6<| .eff 8<| .eff 9<| .done)) (.fork 5 7 (.eff 7<| .eff 8<| .eff 9<| .done) (.eff 5<| .eff 8<| .eff 9<| .done)) (.fork 5 6 (.eff 6<| .eff 8<| .eff 9<| .done) (.eff 5<| .eff 8<| .eff 9<| .done))) (.fork 2 7 (.fork 5 7 (.eff 7<| .eff 8<| .eff 9<| .done) (.eff 5<| .eff 8<| .eff 9<| .done)) (.eff 2<| .eff 5<| .eff 8<| .eff 9<| .done)) (.fork 2 6 (.fork 5 6 (.eff 6<| .eff 8<| .eff 9<| .done) (.eff 5<| .eff 8<| .eff 9<| .done)) (.eff 2<| .eff 5<| .eff 8<| .eff 9<| .done))})]}
theorem Tryz.ok114:okCode Tryz.fx114 (Tryz.f114.body.getD .skip)=true:=by kernel_rfl
def Tryz.fx115:Fx:={n:=24,keep:=[0,1,2,23],plans:=[]}
theorem Tryz.ok115:okCode Tryz.fx115 (Tryz.f115.body.getD .skip)=true:=by kernel_rfl
def Tryz.fx119:Fx:={n:=9,keep:=[0,1,4],plans:=[]}
theorem Tryz.ok119:okCode Tryz.fx119 (Tryz.f119.body.getD .skip)=true:=by kernel_rfl
def Tryz.fx122:Fx:={n:=9,keep:=[0,2],plans:=[]}
theorem Tryz.ok122:okCode Tryz.fx122 (Tryz.f122.body.getD .skip)=true:=by kernel_rfl
def Tryz.fx129:Fx:={n:=14,keep:=[0,1,2,4],plans:=[(1,{ex:=[],mu:=[9],p:=.take 0<| .take 1<| .take 2<| .take 3<| .take 4<| .take 5<| .take 6<| .take 7<| .take 8<| .eff 9<| .done})]}
theorem Tryz.ok129:okCode Tryz.fx129 (Tryz.f129.body.getD .skip)=true:=by kernel_rfl
def Tryz.fx138:Fx:={n:=30,keep:=[0,1,2,3,4,6,7,8,9,10,11,19],plans:=[]}
theorem Tryz.ok138:okCode Tryz.fx138 (Tryz.f138.body.getD .skip)=true:=by kernel_rfl
def Tryz.fx145:Fx:={n:=9,keep:=[0,1,4],plans:=[]}
theorem Tryz.ok145:okCode Tryz.fx145 (Tryz.f145.body.getD .skip)=true:=by kernel_rfl
def Tryz.fx146:Fx:={n:=6,keep:=[0,1,2,3,4],plans:=[]}
theorem Tryz.ok146:okCode Tryz.fx146 (Tryz.f146.body.getD .skip)=true:=by kernel_rfl
def Tryz.fx171:Fx:={n:=9,keep:=[0,1,4],plans:=[]}
theorem Tryz.ok171:okCode Tryz.fx171 (Tryz.f171.body.getD .skip)=true:=by kernel_rfl
def Tryz.fx177:Fx:={n:=61,keep:=[0,2,3,4,5,8,13,25,32,44],plans:=[(6,{ex:=[],mu:=[],p:=.take 0<| .take 1<| .take 2<| .take 3<| .take 4<| .take 5<| .take 6<| .take 7<| .take 8<| .take 9<| .done}),(11,{ex:=[],mu:=[],p:=.take 0<| .take 1<| .take 2<| .take 3<| .take 4<| .take 5<| .take 6<| .take 7<| .take 8<| .take 9<| .done})]}
theorem Tryz.ok177:okCode Tryz.fx177 (Tryz.f177.body.getD .skip)=true:=by kernel_rfl
def Tryz.fx178:Fx:={n:=31,keep:=[0,1,3,4,5,7,8,9,10,15,29],plans:=[]}
theorem Tryz.ok178:okCode Tryz.fx178 (Tryz.f178.body.getD .skip)=true:=by kernel_rfl
def Tryz.fx182:Fx:={n:=19,keep:=[0,1,4,5,7,8,9,16],plans:=[]}
theorem Tryz.ok182:okCode Tryz.fx182 (Tryz.f182.body.getD .skip)=true:=by kernel_rfl
def Tryz.fx187:Fx:={n:=15,keep:=[0,2,3,4,5,8,11],plans:=[]}
theorem Tryz.ok187:okCode Tryz.fx187 (Tryz.f187.body.getD .skip)=true:=by kernel_rfl
def Tryz.fx189:Fx:={n:=27,keep:=[0,1,2,3,4,5,6,7,13],plans:=[]}
theorem Tryz.ok189:okCode Tryz.fx189 (Tryz.f189.body.getD .skip)=true:=by kernel_rfl
def Tryz.fx190:Fx:={n:=93,keep:=[0,1,4,5,11,61,81],plans:=[(4,{ex:=[13,21],mu:=[28],p:=.take 0<| .take 1<| .take 2<| .take 3<| .take 4<| .take 5<| .take 6<| .take 7<| .take 8<| .take 9<| .take 10<| .take 11<| .take 12<| .take 14<| .take 15<| .take 16<| .take 17<| .take 18<| .take 20<| .take 23<| .take 24<| .take 25<| .take 26<| .take 27<| .eff 13<| .take 19<| .eff 21<| .take 22<| .eff 28<| .take 29<| .done}),(8,{ex:=[],mu:=[14],p:=.take 0<| .take 1<| .take 2<| .take 3<| .take 4<| .take 5<| .take 6<| .take 7<| .take 8<| .take 9<| .take 10<| .take 11<| .take 12<| .take 13<| .eff 14<| .done})]}
theorem Tryz.ok190:okCode Tryz.fx190 (Tryz.f190.body.getD .skip)=true:=by kernel_rfl
def Tryz.fx191:Fx:={n:=34,keep:=[0,1,2,3,4,5,7,9,11,12,13,14,20,22,23,24,25,32],plans:=[]}
theorem Tryz.ok191:okCode Tryz.fx191 (Tryz.f191.body.getD .skip)=true:=by kernel_rfl
def Tryz.fx196:Fx:={n:=33,keep:=[0,1,2,4,5,7,11,20,21,22,23,24,29,31],plans:=[]}
theorem Tryz.ok196:okCode Tryz.fx196 (Tryz.f196.body.getD .skip)=true:=by kernel_rfl
def Tryz.fx198:Fx:={n:=5,keep:=[0,2],plans:=[]}
theorem Tryz.ok198:okCode Tryz.fx198 (Tryz.f198.body.getD .skip)=true:=by kernel_rfl
def Tryz.fx199:Fx:={n:=8,keep:=[0,1,2,3,4,5,6],plans:=[]}
theorem Tryz.ok199:okCode Tryz.fx199 (Tryz.f199.body.getD .skip)=true:=by kernel_rfl
def Tryz.fx202:Fx:={n:=72,keep:=[0,1,2,3,8,9,10,22,33,37],plans:=[(8,{ex:=[6],mu:=[9],p:=.take 0<| .take 1<| .take 2<| .take 3<| .take 4<| .take 5<| .take 8<| .eff 6<| .take 7<| .eff 9<| .done})]}
theorem Tryz.ok202:okCode Tryz.fx202 (Tryz.f202.body.getD .skip)=true:=by kernel_rfl
def Tryz.fx221:Fx:={n:=19,keep:=[0,1,4,5,7,8,9,16],plans:=[]}
theorem Tryz.ok221:okCode Tryz.fx221 (Tryz.f221.body.getD .skip)=true:=by kernel_rfl
end Go.Proofs
end

section
namespace Go.Proofs
open Go Go.Vx
def Tryz.fx12:Fx:={n:=39,keep:=[0,1,2,3,4,5],plans:=[]}
theorem Tryz.ok12:okCode Tryz.fx12 (Tryz.f12.body.getD .skip)=true:=by kernel_rfl
def Tryz.fx16:Fx:={n:=26,keep:=[0,1,4,5,10,14,25],plans:=[(6,{ex:=[],mu:=[],p:=.take 0<| .take 1<| .take 2<| .take 3<| .take 4<| .take 5<| .take 6<| .take 7<| .take 8<| .done})]}
theorem Tryz.ok16:okCode Tryz.fx16 (Tryz.f16.body.getD .skip)=true:=by kernel_rfl
def Tryz.fx24:Fx:={n:=69,keep:=[0,1,2,3,4,5,6,10,11,12,14,15,16,17,18,20,32,41,44,45,46,62],plans:=[]}
theorem Tryz.ok24:okCode Tryz.fx24 (Tryz.f24.body.getD .skip)=true:=by kernel_rfl
def Tryz.fx30:Fx:={n:=29,keep:=[0,1,4,5,6,7,11,24],plans:=[]}
theorem Tryz.ok30:okCode Tryz.fx30 (Tryz.f30.body.getD .skip)=true:=by kernel_rfl
def Tryz.fx44:Fx:={n:=10,keep:=[0,1],plans:=[]}
theorem Tryz.ok44:okCode Tryz.fx44 (Tryz.f44.body.getD .skip)=true:=by kernel_rfl
def Tryz.fx47:Fx:={n:=72,keep:=[0,1,2,3,4,5,6,10,11,12,13,14,16,17,18,20,29,43,45,46,47,53,54,55,56,68],plans:=[]}
theorem Tryz.ok47:okCode Tryz.fx47 (Tryz.f47.body.getD .skip)=true:=by kernel_rfl
def Tryz.fx54:Fx:={n:=7,keep:=[0,1,3],plans:=[]}
theorem Tryz.ok54:okCode Tryz.fx54 (Tryz.f54.body.getD .skip)=true:=by kernel_rfl
def Tryz.fx59:Fx:={n:=17,keep:=[0,1,4,6],plans:=[]}
theorem Tryz.ok59:okCode Tryz.fx59 (Tryz.f59.body.getD .skip)=true:=by kernel_rfl
def Tryz.fx67:Fx:={n:=58,keep:=[0,1,3,4,5,6,7,8,9,10,11,12,21,24,30,31,32,33,50],plans:=[(11,{ex:=[4],mu:=[9],p:=.take 0<| .take 1<| .take 2<| .take 3<| .eff 4<| .take 5<| .take 6<| .take 7<| .take 8<| .eff 9<| .done})]}
theorem Tryz.ok67:okCode Tryz.fx67 (Tryz.f67.body.getD .skip)=true:=by kernel_rfl
def Tryz.fx85:Fx:={n:=23,keep:=[0,1,2,3,4,8,9,13,18],plans:=[]}
theorem Tryz.ok85:okCode Tryz.fx85 (Tryz.f85.body.getD .skip)=true:=by kernel_rfl
def Tryz.fx106:Fx:={n:=19,keep:=[0,1,4,5,7,8,9,16],plans:=[]}
theorem Tryz.ok106:okCode Tryz.fx106 (Tryz.f106.body.getD .skip)=true:=by kernel_rfl
def Tryz.fx123:Fx:={n:=17,keep:=[0,1,3,4,5,6,11],plans:=[]}
theorem Tryz.ok123:okCode Tryz.fx123 (Tryz.f123.body.getD .skip)=true:=by kernel_rfl
def Tryz.fx125:Fx:={n:=8,keep:=[0,2,4],plans:=[]}
theorem Tryz.ok125:okCode Tryz.fx125 (Tryz.f125.body.getD .skip)=true:=by kernel_rfl
def Tryz.fx126:Fx:={n:=54,keep:=[0,1,4,5,6,7,8,9,10,11,12,13,14,15,24,37,50],plans:=[(7,{ex:=[9],mu:=[5,10],p:=.take 0<| .take 1<| .take 2<| .take 3<| .take 4<| .fork 5 9 (.take 6<| .take 7<| .take 8<| .eff 9<| .eff 10<| .take 11<| .done) (.eff 5<| .take 6<| .take 7<| .take 8<| .eff 10<| .take 11<| .done)})]}
theorem Tryz.ok126:okCode Tryz.fx126 (Tryz.f126.body.getD .skip)=true:=by kernel_rfl
def Tryz.fx135:Fx:={n:=15,keep:=[0,1,2,6],plans:=[]}
theorem Tryz.ok135:okCode Tryz.fx135 (Tryz.f135.body.getD .skip)=true:=by kernel_rfl
def Tryz.fx136:Fx:={n:=72,keep:=[0,1,2,3,6,7,8,11,12,13,14,15,19,35],plans:=[(8,{ex:=[],mu:=[],p:=.take 0<| .take 1<| .take 2<| .take 3<| .take 4<| .take 5<| .take 6<| .take 7<| .take 8<| .take 9<| .take 10<| .take 11<| .take 12<| .take 13<| .take 14<| .take 15<| .take 16<| .take 17<| .take 18<| .take 19<| .take 20<| .take 21<| .take 22<| .take 23<| .take 24<| .take 25<| .take 26<| .take 27<| .take 28<| .take 29<| .take 30<| .take 31<| .take 32<| .take 33<| .take 34<| .take 35<| .done})]}
theorem Tryz.ok136:okCode Tryz.fx136 (Tryz.f136.body.getD .skip)=true:=by kernel_rfl
def Tryz.fx137:Fx:={n:=26,keep:=[0,1,2,3,5,8,9,10,11],plans:=[(5,{ex:=[8,9],mu:=[10],p:=.take 0<| .take 1<| .take 2<| .take 3<| .take 4<| .take 5<| .take 6<| .take 7<| .eff 8<| .eff 9<| .eff 10<| .done})]}
theorem Tryz.ok137:okCode Tryz.fx137 (Tryz.f137.body.getD .skip)=true:=by kernel_rfl
def Tryz.fx139:Fx:={n:=8,keep:=[0,1,2,3,4,5,6],plans:=[]}
theorem Tryz.ok139:okCode Tryz.fx139 (Tryz.f139.body.getD .skip)=true:=by kernel_rfl
def Tryz.fx144:Fx:={n:=27,keep:=[0,1,2,3,5,13],plans:=[(3,{ex:=[],mu:=[9],p:=.take 0<| .take 1<| .take 2<| .take 3<| .take 4<| .take 5<| .take 6<| .take 7<| .take 8<| .eff 9<| .take 10<| .done})]}
theorem Tryz.ok144:okCode Tryz.fx144 (Tryz.f144.body.getD .skip)=true:=by kernel_rfl
def Tryz.fx147:Fx:={n:=168,keep:=[0,1,2,3,4,8,9,10,11,12,13,14,15,16,18,19,21,23,28,35,43,63,64,65,66,87,88,89,92,93,94,100,101,102,103,114,115,116,118,119,120,121,145,147],plans:=[(14,{ex:=[14,15],mu:=[16],p:=.take 0<| .take 1<| .take 2<| .take 3<| .take 4<| .take 5<| .take 6<| .take 7<| .take 8<| .take 9<| .take 10<| .take 11<| .take 12<| .take 13<| .eff 14<| .eff 15<| .eff 16<| .done}),(42,{ex:=[],mu:=[14],p:=.take 0<| .take 1<| .take 2<| .take 3<| .take 4<| .take 5<| .take 6<| .take 7<| .take 8<| .take 9<| .take 10<| .take 11<| .take 12<| .take 13<| .eff 14<| .done})]}
theorem Tryz.ok147:okCode Tryz.fx147 (Tryz.f147.body.getD .skip)=true:=by kernel_rfl
def Tryz.fx175:Fx:={n:=51,keep:=[0,1,4,5,6,7,8,9,10,11,12,13],plans:=[]}
theorem Tryz.ok175:okCode Tryz.fx175 (Tryz.f175.body.getD .skip)=true:=by kernel_rfl
def Tryz.fx192:Fx:={n:=20,keep:=[0,1,2,4,6,9,10,11,12,18],plans:=[]}
theorem Tryz.ok192:okCode Tryz.fx192 (Tryz.f192.body.getD .skip)=true:=by kernel_rfl
def Tryz.fx195:Fx:={n:=92,keep:=[0,1,2,4,6,7,9,14,15,16,17,24,37,76,77,78,79,90],plans:=[(5,{ex:=[],mu:=[],p:=.take 0<| .take 1<| .take 2<| .take 3<| .take 4<| .take 5<| .take 6<| .take 7<| .take 8<| .take 9<| .done}),(8,{ex:=[11],mu:=[12,14],p:=.take 0<| .take 1<| .take 2<| .take 3<| .take 4<| .take 5<| .take 6<| .take 7<| .take 8<| .take 9<| .take 10<| .eff 11<| .eff 12<| .take 13<| .eff 14<| .done}),(10,{ex:=[],mu:=[11],p:=.take 0<| .take 1<| .take 2<| .take 3<| .take 4<| .take 5<| .take 6<| .take 7<| .take 8<| .take 9<| .take 10<| .eff 11<| .done})]}
theorem Tryz.ok195:okCode Tryz.fx195 (Tryz.f195.body.getD .skip)=true:=by kernel_rfl
def Tryz.fx197:Fx:={n:=58,keep:=[0,1,2,4,6,9,10,11,12,13,16,25,39,48],plans:=[]}
theorem Tryz.ok197:okCode Tryz.fx197 (Tryz.f197.body.getD .skip)=true:=by kernel_rfl
def Tryz.fx200:Fx:={n:=147,keep:=[0,1,2,3,8,9,11,12,14,15,36,52,53,54,55,61,99],plans:=[(0,{ex:=[],mu:=[15],p:=.take 0<| .take 1<| .take 2<| .take 3<| .take 4<| .take 5<| .take 6<| .take 7<| .take 8<| .take 9<| .take 10<| .take 11<| .take 12<| .take 13<| .take 14<| .eff 15<| .take 16<| .take 17<| .take 18<| .take 19<| .take 20<| .done}),(9,{ex:=[],mu:=[],p:=.take 0<| .take 1<| .take 2<| .take 3<| .take 4<| .take 5<| .take 6<| .take 7<| .take 8<| .take 9<| .take 10<| .take 11<| .take 12<| .take 13<| .take 14<| .done}),(12,{ex:=[],mu:=[],p:=.take 0<| .take 1<| .take 2<| .take 3<| .take 4<| .take 5<| .take 6<| .take 7<| .take 8<| .take 9<| .take 10<| .take 11<| .take 12<| .take 13<| .take 14<| .take 15<| .take 16<| .done}),(13,{ex:=[],mu:=[11],p:=.take 0<| .take 1<| .take 2<| .take 3<| .take 4<| .take 5<| .take 6<| .take 7<| .take 8<| .take 9<| .take 10<| .eff 11<| .done})]}
theorem Tryz.ok200:okCode Tryz.fx200 (Tryz.f200.body.getD .skip)=true:=by kernel_rfl
def Tryz.fx201:Fx:={n:=2,keep:=[0],plans:=[]}
theorem Tryz.ok201:okCode Tryz.fx201 (Tryz.f201.body.getD .skip)=true:=by kernel_rfl
def Tryz.fx235:Fx:={n:=17,keep:=[0,1,2,4,6],plans:=[]}
theorem Tryz.ok235:okCode Tryz.fx235 (Tryz.f235.body.getD .skip)=true:=by kernel_rfl
def Tryz.fx236:Fx:={n:=12,keep:=[0,1,2,4],plans:=[]}
theorem Tryz.ok236:okCode Tryz.fx236 (Tryz.f236.body.getD .skip)=true:=by kernel_rfl
def Tryz.fx238:Fx:={n:=6,keep:=[0,1,2],plans:=[]}
theorem Tryz.ok238:okCode Tryz.fx238 (Tryz.f238.body.getD .skip)=true:=by kernel_rfl
def Tryz.fx242:Fx:={n:=14,keep:=[0,1],plans:=[]}
theorem Tryz.ok242:okCode Tryz.fx242 (Tryz.f242.body.getD .skip)=true:=by kernel_rfl
end Go.Proofs
end

section

end
