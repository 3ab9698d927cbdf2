import Derived.Test.YtlbekjokdlkghaaGreatChipKnownLay
import Derived.Test.YtlbekjokdlkghaaGreatChipKnownFx1
import Derived.Test.YtlbekjokdlkghaaGreatChipKnownFx3
import Derived.Test.YtlbekjokdlkghaaGreatChipKnownGa
set_option linter.unusedSimpArgs false
section
namespace Go.Proofs
open Go Go.Vx
def Tryz.fx12:Fx:={n:=39,keep:=[0,1,2,3,4,5],plans:=[]}
theorem Tryz.ok12:okCode Tryz.fx12 (Tryz.f12.body.getD .skip)=true:=by kernel_rfl
def Tryz.fx16:Fx:={n:=26,keep:=[0,1,4,5,10,14,25],plans:=[(6,{ex:=[],mu:=[],p:=.take 0<| .take 1<| .take 2<| .take 3<| .take 4<| .take 5<| .take 6<| .take 7<| .take 8<| .done})]}
theorem Tryz.ok16:okCode Tryz.fx16 (Tryz.f16.body.getD .skip)=true:=by kernel_rfl
def Tryz.fx24:Fx:={n:=69,keep:=[0,1,2,3,4,5,6,10,11,12,14,15,16,17,18,20,32,41,44,45,46,62],plans:=[]}
theorem Tryz.ok24:okCode Tryz.fx24 (Tryz.f24.body.getD .skip)=true:=by kernel_rfl
def Tryz.fx30:Fx:={n:=29,keep:=[0,1,4,5,6,7,11,24],plans:=[]}
theorem Tryz.ok30:okCode Tryz.fx30 (Tryz.f30.body.getD .skip)=true:=by kernel_rfl
def Tryz.fx37:Fx:={n:=54,keep:=[0,1,4,5,6,7,8,12,19,20,21,22,26,38],plans:=[]}
theorem Tryz.ok37:okCode Tryz.fx37 (Tryz.f37.body.getD .skip)=true:=by kernel_rfl
def Tryz.fx40:Fx:={n:=11,keep:=[0,2,5],plans:=[]}
theorem Tryz.ok40:okCode Tryz.fx40 (Tryz.f40.body.getD .skip)=true:=by kernel_rfl
def Tryz.fx44:Fx:={n:=10,keep:=[0,1],plans:=[]}
theorem Tryz.ok44:okCode Tryz.fx44 (Tryz.f44.body.getD .skip)=true:=by kernel_rfl
def Tryz.fx47:Fx:={n:=72,keep:=[0,1,2,3,4,5,6,10,11,12,13,14,16,17,18,20,29,43,45,46,47,53,54,55,56,68],plans:=[]}
theorem Tryz.ok47:okCode Tryz.fx47 (Tryz.f47.body.getD .skip)=true:=by kernel_rfl
def Tryz.fx54:Fx:={n:=7,keep:=[0,1,3],plans:=[]}
theorem Tryz.ok54:okCode Tryz.fx54 (Tryz.f54.body.getD .skip)=true:=by kernel_rfl
def Tryz.fx59:Fx:={n:=17,keep:=[0,1,4,6],plans:=[]}
theorem Tryz.ok59:okCode Tryz.fx59 (Tryz.f59.body.getD .skip)=true:=by kernel_rfl
def Tryz.fx67:Fx:={n:=58,keep:=[0,1,3,4,5,6,7,8,9,10,11,12,21,24,30,31,32,33,50],plans:=[(11,{ex:=[4],mu:=[9],p:=.take 0<| .take 1<| .take 2<| .take 3<| .eff 4<| .take 5<| .take 6<| .take 7<| .take 8<| .eff 9<| .done})]}
theorem Tryz.ok67:okCode Tryz.fx67 (Tryz.f67.body.getD .skip)=true:=by kernel_rfl
def Tryz.fx85:Fx:={n:=23,keep:=[0,1,2,3,4,8,9,13,18],plans:=[]}
theorem Tryz.ok85:okCode Tryz.fx85 (Tryz.f85.body.getD .skip)=true:=by kernel_rfl
def Tryz.fx106:Fx:={n:=19,keep:=[0,1,4,5,7,8,9,16],plans:=[]}
theorem Tryz.ok106:okCode Tryz.fx106 (Tryz.f106.body.getD .skip)=true:=by kernel_rfl
def Tryz.fx123:Fx:={n:=17,keep:=[0,1,3,4,5,6,11],plans:=[]}
theorem Tryz.ok123:okCode Tryz.fx123 (Tryz.f123.body.getD .skip)=true:=by kernel_rfl
def Tryz.fx125:Fx:={n:=8,keep:=[0,2,4],plans:=[]}
theorem Tryz.ok125:okCode Tryz.fx125 (Tryz.f125.body.getD .skip)=true:=by kernel_rfl
def Tryz.fx126:Fx:={n:=54,keep:=[0,1,4,5,6,7,8,9,10,11,12,13,14,15,24,37,50],plans:=[(7,{ex:=[9],mu:=[5,10],p:=.take 0<| .take 1<| .take 2<| .take 3<| .take 4<| .fork 5 9 (.take 6<| .take 7<| .take 8<| .eff 9<| .eff 10<| .take 11<| .done) (.eff 5<| .take 6<| .take 7<| .take 8<| .eff 10<| .take 11<| .done)})]}
theorem Tryz.ok126:okCode Tryz.fx126 (Tryz.f126.body.getD .skip)=true:=by kernel_rfl
def Tryz.fx135:Fx:={n:=15,keep:=[0,1,2,6],plans:=[]}
theorem Tryz.ok135:okCode Tryz.fx135 (Tryz.f135.body.getD .skip)=true:=by kernel_rfl
def Tryz.fx136:Fx:={n:=72,keep:=[0,1,2,3,6,7,8,11,12,13,14,15,19,35],plans:=[(8,{ex:=[],mu:=[],p:=.take 0<| .take 1<| .take 2<| .take 3<| .take 4<| .take 5<| .take 6<| .take 7<| .take 8<| .take 9<| .take 10<| .take 11<| .take 12<| .take 13<| .take 14<| .take 15<| .take 16<| .take 17<| .take 18<| .take 19<| .take 20<| .take 21<| .take 22<| .take 23<| .take 24<| .take 25<| .take 26<| .take 27<| .take 28<| .take 29<| .take 30<| .take 31<| .take 32<| .take 33<| .take 34<| .take 35<| .done})]}
theorem Tryz.ok136:okCode Tryz.fx136 (Tryz.f136.body.getD .skip)=true:=by kernel_rfl
def Tryz.fx137:Fx:={n:=26,keep:=[0,1,2,3,5,8,9,10,11],plans:=[(5,{ex:=[8,9],mu:=[10],p:=.take 0<| .take 1<| .take 2<| .take 3<| .take 4<| .take 5<| .take 6<| .take 7<| .eff 8<| .eff 9<| .eff 10<| .done})]}
theorem Tryz.ok137:okCode Tryz.fx137 (Tryz.f137.body.getD .skip)=true:=by kernel_rfl
def Tryz.fx139:Fx:={n:=8,keep:=[0,1,2,3,4,5,6],plans:=[]}
theorem Tryz.ok139:okCode Tryz.fx139 (Tryz.f139.body.getD .skip)=true:=by kernel_rfl
def Tryz.fx144:Fx:={n:=27,keep:=[0,1,2,3,5,13],plans:=[(3,{ex:=[],mu:=[9],p:=.take 0<| .take 1<| .take 2<| .take 3<| .take 4<| .take 5<| .take 6<| .take 7<| .take 8<| .eff 9<| .take 10<| .done})]}
theorem Tryz.ok144:okCode Tryz.fx144 (Tryz.f144.body.getD .skip)=true:=by kernel_rfl
def Tryz.fx147:Fx:={n:=168,keep:=[0,1,2,3,4,8,9,10,11,12,13,14,15,16,18,19,21,23,28,35,43,63,64,65,66,87,88,89,92,93,94,100,101,102,103,114,115,116,118,119,120,121,145,147],plans:=[(14,{ex:=[14,15],mu:=[16],p:=.take 0<| .take 1<| .take 2<| .take 3<| .take 4<| .take 5<| .take 6<| .take 7<| .take 8<| .take 9<| .take 10<| .take 11<| .take 12<| .take 13<| .eff 14<| .eff 15<| .eff 16<| .done}),(42,{ex:=[],mu:=[14],p:=.take 0<| .take 1<| .take 2<| .take 3<| .take 4<| .take 5<| .take 6<| .take 7<| .take 8<| .take 9<| .take 10<| .take 11<| .take 12<| .take 13<| .eff 14<| .done})]}
theorem Tryz.ok147:okCode Tryz.fx147 (Tryz.f147.body.getD .skip)=true:=by kernel_rfl
def Tryz.fx175:Fx:={n:=51,keep:=[0,1,4,5,6,7,8,9,10,11,12,13],plans:=[]}
theorem Tryz.ok175:okCode Tryz.fx175 (Tryz.f175.body.getD .skip)=true:=by kernel_rfl
def Tryz.fx192:Fx:={n:=20,keep:=[0,1,2,4,6,9,10,11,12,18],plans:=[]}
theorem Tryz.ok192:okCode Tryz.fx192 (Tryz.f192.body.getD .skip)=true:=by kernel_rfl
def Tryz.fx195:Fx:={n:=92,keep:=[0,1,2,4,6,7,9,14,15,16,17,24,37,76,77,78,79,90],plans:=[(5,{ex:=[],mu:=[],p:=.take 0<| .take 1<| .take 2<| .take 3<| .take 4<| .take 5<| .take 6<| .take 7<| .take 8<| .take 9<| .done}),(8,{ex:=[11],mu:=[12,14],p:=.take 0<| .take 1<| .take 2<| .take 3<| .take 4<| .take 5<| .take 6<| .take 7<| .take 8<| .take 9<| .take 10<| .eff 11<| .eff 12<| .take 13<| .eff 14<| .done}),(10,{ex:=[],mu:=[11],p:=.take 0<| .take 1<| .take 2<| .take 3<| .take 4<| .take 5<| .take 6<| .take 7<| .take 8<| .take 9<| .take 10<| .eff 11<| .done})]}
theorem Tryz.ok195:okCode Tryz.fx195 (Tryz.f195.body.getD .skip)=true:=by kernel_rfl
def Tryz.fx197:Fx:={n:=58,keep:=[0,1,2,4,6,9,10,11,12,13,16,25,39,48],plans:=[]}
theorem Tryz.ok197:okCode Tryz.fx197 (Tryz.f197.body.getD .skip)=true:=by kernel_rfl
def Tryz.fx200:Fx:={n:=147,keep:=[0,1,2,3,8,9,11,12,14,15,36,52,53,54,55,61,99],plans:=[(0,{ex:=[],mu:=[15],p:=.take 0<| .take 1<| .take 2<| .take 3<| .take 4<| .take 5<| .take 6<| .take 7<| .take 8<| .take 9<| .take 10<| .take 11<| .take 12<| .take 13<| .take 14<| .eff 15<| .take 16<| .take 17<| .take 18<| .take 19<| .take 20<| .done}),(9,{ex:=[],mu:=[],p:=.take 0<| .take 1<| .take 2<| .take 3<| .take 4<| .take 5<| .take 6<| .take 7<| .take 8<| .take 9<| .take 10<| .take 11<| .take 12<| .take 13<| .take 14<| .done}),(12,{ex:=[],mu:=[],p:=.take 0<| .take 1<| .take 2<| .take 3<| .take 4<| .take 5<| .take 6<| .take 7<| .take 8<| .take 9<| .take 10<| .take 11<| .take 12<| .take 13<| .take 14<| .take 15<| .take 16<| .done}),(13,{ex:=[],mu:=[11],p:=.take 0<| .take 1<| .take 2<| .take 3<| .take 4<| .take 5<| .take 6<| .take 7<| .take 8<| .take 9<| .take 10<| .eff 11<| .done})]}
theorem Tryz.ok200:okCode Tryz.fx200 (Tryz.f200.body.getD .skip)=true:=by kernel_rfl
def Tryz.fx201:Fx:={n:=2,keep:=[0],plans:=[]}
theorem Tryz.ok201:okCode Tryz.fx201 (Tryz.f201.body.getD .skip)=true:=by kernel_rfl
def Tryz.fx235:Fx:={n:=17,keep:=[0,1,2,4,6],plans:=[]}
theorem Tryz.ok235:okCode Tryz.fx235 (Tryz.f235.body.getD .skip)=true:=by kernel_rfl
def Tryz.fx236:Fx:={n:=12,keep:=[0,1,2,4],plans:=[]}
theorem Tryz.ok236:okCode Tryz.fx236 (Tryz.f236.body.getD .skip)=true:=by kernel_rfl
def Tryz.fx238:Fx:={n:=6,keep:=[0,1,2],plans:=[]}
theorem Tryz.ok238:okCode Tryz.fx238 (Tryz.f238.body.getD .skip)=true:=by kernel_rfl
def Tryz.fx242:Fx:={n:=14,keep:=[0,1],plans:=[]}
theorem Tryz.ok242:okCode Tryz.fx242 (Tryz.f242.body.getD .skip)=true:=by kernel_rfl
end Go.Proofs
end

section

end

section
set_option linter.unusedVariables false
namespace Go.Proofs
open Go Go.Vx Go.Gm
def parV (p:Par):List Value:=[.int .i64 p.lk,.int .i64 p.lv,.int .i64 p.bias,.int .i64 p.th,.int .i64 p.rk,.int .i64 p.rs,.int .i64 p.fl,.int .i64 p.rest]
def staV (s:Sta):List Value:=[.int .i64 s.v,.int .i64 s.rest]
theorem within_any (n lo hi:Int)(w:World):
  Calls Tryz.prog 188 #[.int .i64 n,.int .i64 lo,.int .i64 hi] w fun e w'=>∃b:Bool,e=.returned (.bool b)/\(b=true<->lo<=n/\n<=hi)/\St w [] [] w':=by
 refine enter (C:=Tryz.cx) (F:=Tryz.fx188) (args:=[_,_,_]) Tryz.func188 rfl rfl rfl Tryz.ok188 (St.start w []) ?_
 repeat' (conv=>whnf);first|refine VSeq.go ?_|refine oS (fun _=>?_) fun _=>?_|refine oL ?_|refine oT ?_|refine oV fun _=>?_|refine oA ?_
 all_goals (conv=>whnf)
 all_goals exact ⟨fun w' hw'=>⟨_,rfl,by simp;omega,hw'⟩⟩
theorem within_net (n lo hi:Int)(w:World):
  Calls Tryz.prog 135 #[.int .i64 n,.int .i64 lo,.int .i64 hi] w fun e w'=>∃b:Bool,e=.returned (.bool b)/\(b=true<->lo<=n/\n<=hi)/\St w [] [] w':=by
 refine enter (C:=Tryz.cx) (F:=Tryz.fx135) (args:=[_,_,_]) Tryz.func135 rfl rfl rfl Tryz.ok135 (St.start w []) ?_
 repeat' (conv=>whnf);first|refine VSeq.go ?_|refine oS (fun _=>?_) fun _=>?_|refine oL ?_|refine oT ?_|refine oV fun _=>?_|refine oA ?_
 all_goals (conv=>whnf)
 all_goals exact ⟨fun w' hw'=>⟨_,rfl,by simp;omega,hw'⟩⟩
def leakF (k:Int):Value:=
 if k=0 then .func (.func 234) #[] #[] else if k=1 then .func (.func 235) #[] #[] else if k=2 then .func (.func 236) #[] #[] else .nilFunc
def leakM (k:Int):Int:=if k=0 then 0 else if k=1 then 1048576 else if k=2 then 256 else 0
theorem leaks_any (k:Int)(w:World):
  Calls Tryz.prog 187 #[.int .i64 k] w fun e w'=>∃b:Bool,e=.returned (.tuple #[.agg #[.int .i64 (leakM k),leakF k],.bool b])/\(b=true<->0<=k/\k<=2)/\St w [] [] w':=by
 refine enter (C:=Tryz.cx) (F:=Tryz.fx187) (args:=[_]) Tryz.func187 rfl rfl rfl Tryz.ok187 (St.start w []) ?_
 repeat' (conv=>whnf);first|refine VSeq.go ?_|refine oS (fun _=>?_) fun _=>?_|refine oL ?_|refine oT ?_|refine oV fun _=>?_|refine oA ?_
 all_goals (conv=>whnf)
 ·exact ⟨fun w' hw'=>⟨true,by simp [packE,leakM,leakF, *],by simp;omega,hw'.le .nil⟩⟩
 ·exact ⟨fun w' hw'=>⟨true,by simp [packE,leakM,leakF, *],by simp;omega,hw'.le .nil⟩⟩
 ·exact ⟨fun w' hw'=>⟨true,by simp [packE,leakM,leakF, *],by simp;omega,hw'.le .nil⟩⟩
 ·exact ⟨fun w' hw'=>⟨false,by simp [packE,leakM,leakF, *],by simp;omega,hw'.le .nil⟩⟩
theorem leakF_one (k:Int):(leakF k).oneCell'=true:=by
 unfold leakF;split<;>(try split)<;>(try split)<;>rfl
theorem check_any (p:Par)(hp:p.wf)(w:World):
  Calls Tryz.prog 133 #[.agg (parV p).toArray] w fun e w'=>e=.returned (.int .i64 (chk p))/\St w [] [] w':=by
 obtain ⟨h1,h2,h3,h4,h5,h6,h7,h8⟩:=hp
 unfold I64 at*
 have hone:oneAll [.int .i64 (leakM p.lk),leakF p.lk]=true:=by have h:=leakF_one p.lk;simp only [oneAll,h];rfl
 refine enter (C:=Tryz.cx) (F:=Tryz.fx133) (args:=[_]) Tryz.func133 rfl rfl rfl Tryz.ok133 (St.start w []) ?_
 have hm0:p.lk=0->leakM p.lk=0:=by intro h;simp [leakM,h]
 have hm1:p.lk=1->leakM p.lk=1048576:=by intro h;simp [leakM,h]
 have hm2:p.lk=2->leakM p.lk=256:=by intro h;simp [leakM,h]
 repeat' (conv=>whnf);first|(refine VCall.is ?_;refine VCall.ex (leaks_any _) fun b hb=>?_)|(refine VCall.is ?_;refine VCall.bool (within_any _ _ _) ?_)|(refine VAr.is ?_;refine VAr.any fun _ _=>?_)|refine VSeq.go ?_|refine oS (fun _=>?_) fun _=>?_|(refine oB (fun h=>?_) (fun h=>?_)<;>subst h)|refine oL ?_|refine oT ?_|refine oV fun _=>?_|refine oH ?_
 all_goals (conv=>whnf)
 all_goals refine ⟨fun w' hw'=>⟨?_,hw'.le .nil⟩⟩
 all_goals simp only [true_iff,false_iff,QV] at hb
 all_goals first
  |(rw [chk_two (by unfold kindsOk;omega)];rfl)
  |(rw [chk_three (by unfold kindsOk;omega) (by unfold rangeOk leakOk;omega)];rfl)
  |(rw [chk_zero (by unfold kindsOk;omega) (by unfold rangeOk leakOk;omega)];rfl)
theorem leaks0 (p:Par)(v:Int)(w:World):
  Calls Tryz.prog 234 #[.agg (parV p).toArray,.int .i64 v] w fun e w'=>e=.returned (.int .i64 v)/\St w [] [] w':=by
 refine enter (C:=Tryz.cx) (F:=Tryz.fx234) (args:=[_,_]) Tryz.func234 rfl rfl rfl Tryz.ok234 (St.start w []) ?_
 repeat' (conv=>whnf);first|refine VSeq.go ?_|refine oS (fun _=>?_) fun _=>?_|refine oL ?_|refine oT ?_|refine oV fun _=>?_|refine oA ?_
 all_goals (conv=>whnf)
 all_goals exact ⟨fun w' hw'=>⟨rfl,hw'.le .nil⟩⟩
theorem leaks1 (p:Par)(hp:ParOk p)(hk:p.lk=1)(v:Int)(h1: -1048576<=v)(h2:v<=1048576)(w:World):
  Calls Tryz.prog 235 #[.agg (parV p).toArray,.int .i64 v] w fun e w'=>e=.returned (.int .i64 (leak p v))/\St w [] [] w':=by
 have hl:=hp.leak
 unfold leakOk at hl
 refine enter (C:=Tryz.cx) (F:=Tryz.fx235) (args:=[_,_]) Tryz.func235 rfl rfl rfl Tryz.ok235 (St.start w []) ?_
 repeat' (conv=>whnf);first|refine VSeq.go ?_|refine oS (fun _=>?_) fun _=>?_|refine oL ?_|refine oT ?_|refine oV fun _=>?_|refine oA ?_
 all_goals (conv=>whnf)
 all_goals exact ⟨fun w' hw'=>⟨by simp [packE,leak, *],hw'.le .nil⟩⟩
theorem leaks2 (p:Par)(hp:ParOk p)(hk:p.lk=2)(v:Int)(h1: -1048576<=v)(h2:v<=1048576)(w:World):
  Calls Tryz.prog 236 #[.agg (parV p).toArray,.int .i64 v] w fun e w'=>e=.returned (.int .i64 (leak p v))/\St w [] [] w':=by
 have hl:=hp.leak
 unfold leakOk at hl
 have hm:=share_bounds hp hk h1 h2
 have hd:=tdiv_bounds (a:=v*p.lv) (b:=256)
 refine enter (C:=Tryz.cx) (F:=Tryz.fx236) (args:=[_,_]) Tryz.func236 rfl rfl rfl Tryz.ok236 (St.start w []) ?_
 repeat' (conv=>whnf);first|(refine VQ.is ?_;refine VQ.any qZ qZ qZ ?_)|refine VSeq.go ?_|refine oL ?_|refine oV fun _=>?_|refine oA ?_
 all_goals (conv=>whnf)
 all_goals exact ⟨fun w' hw'=>⟨by simp [packE,leak, *],hw'.le .nil⟩⟩
theorem bounded_any (n lo hi:Int)(w:World):
  Calls Tryz.prog 237 #[.int .i64 n,.int .i64 lo,.int .i64 hi] w fun e w'=>e=.returned (.int .i64 (max lo (min hi n)))/\St w [] [] w':=by
 refine enter (C:=Tryz.cx) (F:=Tryz.fx237) (args:=[_,_,_]) Tryz.func237 rfl rfl rfl Tryz.ok237 (St.start w []) ?_
 repeat' (conv=>whnf);first|refine VSeq.go ?_|refine oS (fun _=>?_) fun _=>?_|refine oL ?_|refine oT ?_|refine oV fun _=>?_|refine oA ?_
 all_goals (conv=>whnf)
 all_goals exact ⟨fun w' hw'=>⟨rfl,hw'⟩⟩
theorem valid_any (p:Par)(hp:p.wf)(s:Sta)(w:World):
  Calls Tryz.prog 142 #[.agg (parV p).toArray,.agg (staV s).toArray] w fun e w'=>e=.returned (.int .i64 (chkS p s))/\St w [] [] w':=by
 refine enter (C:=Tryz.cx) (F:=Tryz.fx142) (args:=[_,_]) Tryz.func142 rfl rfl rfl Tryz.ok142 (St.start w []) ?_
 repeat' (conv=>whnf);first|(refine VCall.is ?_;refine VCall.val (check_any p hp) ?_)|(refine VCall.is ?_;refine VCall.bool (within_any _ _ _) ?_)|refine VSeq.go ?_|refine oS (fun _=>?_) fun _=>?_|refine oL ?_|refine oV fun _=>?_
 all_goals (conv=>whnf)
 all_goals refine ⟨fun w' hw'=>⟨?_,hw'.le .nil⟩⟩
 all_goals refine congrArg (fun x=>Ending.returned (.int .i64 x)) ?_
 all_goals unfold chkS staOk
 all_goals (repeat' split)<;>first|rfl|omega
def cellW (p:Par)(s:Sta)(F:Value):List Value:=[.int .i64 p.lk,.int .i64 p.lv,.int .i64 p.bias,.int .i64 p.th,.int .i64 p.rk,.int .i64 p.rs,.int .i64 p.fl,.int .i64 p.rest,.int .i64 s.v,.int .i64 s.rest,F]
def cellV (p:Par)(s:Sta):List Value:=cellW p s (leakF p.lk)
theorem newCell_ok (p:Par)(hp:p.wf)(s:Sta)(h:chkS p s=0)(w:World):
  Calls Tryz.prog 189 #[.agg (parV p).toArray,.agg (staV s).toArray] w fun e w'=>∃b:Nat,e=.returned (.tuple #[.pointer (some ⟨b,0,none⟩),.int .i64 0])/\True/\St w [] [.row b 357 (cellV p s)] w':=by
 have hlk:p.lk=0\/p.lk=1\/p.lk=2:=by have:=(chkS_zero.1 h).1.lk;omega
 obtain ⟨lk,lv,bias,th,rk,rs,fl,rest⟩:=p
 dsimp only at hlk
 rcases hlk with rfl|rfl|rfl
 all_goals refine enter (C:=Tryz.cx) (F:=Tryz.fx189) (args:=[_,_]) Tryz.func189 rfl rfl rfl Tryz.ok189 (St.start w []) ?_
 repeat' (conv=>whnf);first|(refine VCall.is ?_;refine VCall.val (valid_any _ hp _) ?_)|(refine VCall.is ?_;refine VCall.ex (leaks_any _) fun b hb=>?_)|(refine VB.is ?_;refine VB.split (fun hn=>absurd h hn) (fun _=>?_))|refine VSeq.go ?_|refine oL ?_|refine oT ?_|refine oV fun _=>?_
 all_goals (conv=>whnf)
 all_goals exact ⟨fun w' hw'=>⟨_,rfl,trivial,hw'.le (.cons .here .nil)⟩⟩
theorem tick_any (p:Par)(s:Sta)(x:Int)(hp:ParOk p)(hs:staOk p s)(b:Nat)(w:World)(hw:w.heap[b]? =some (.cells (cellV p s).toArray 357 (0,0))):
  Calls Tryz.prog 190 #[.pointer (some ⟨b,0,none⟩),.int .i64 x] w fun e w'=>∃_:Unit,e=.returned (.bool (tick p s x).2)/\True/\St w [b] [.row b 357 (cellV p (tick p s x).1)] w':=by
 have hlk:p.lk=0\/p.lk=1\/p.lk=2:=by have:=hp.lk;omega
 have hv1: -1048576<=s.v:=by have:=hp.fl;have:=hs.1;omega
 have hv2:s.v<=1048576:=hs.1.2
 have hb:=leak_bounds hp (v:=s.v) hv1 hv2
 have hbias:=hp.bias
 have hth:=hp.th
 have hfl:=hp.fl
 have hr:=hs.2
 have hrest:=hp.rest
 unfold cellV at*
 rcases hlk with hlk|hlk|hlk
 ·have hF:leakF p.lk=.func (.func 234) #[] #[]:=by simp [leakF,hlk]
  have hl:leak p s.v=s.v:=by simp [leak,hlk]
  have hV:vnext p s x=max p.fl (min 1048576 (s.v+p.bias+max (-4194304) (min 4194304 x))):=by rw [vnext,hl]
  rw [hF] at hw ⊢
  refine enter (C:=Tryz.cx) (F:=Tryz.fx190) (args:=[_,_]) Tryz.func190 rfl rfl rfl Tryz.ok190 (St.start1 hw) ?_
  repeat' (conv=>whnf);first|(refine VCall.is ?_;refine VCall.val (leaks0 _ _) ?_)|(refine VCall.is ?_;refine VCall.val (bounded_any _ _ _) ?_)|refine VSeq.go ?_|refine oS (fun _=>?_) fun _=>?_|refine oL ?_|refine oT ?_|refine oA ?_|refine oK ?_|refine oH ?_
  all_goals (conv=>whnf)
  ·rw [tick_rest ‹_›];exact ⟨fun w' hw'=>⟨(),rfl,trivial,hw'⟩⟩
  ·rw [tick_low hV ‹_› ‹_›];exact ⟨fun w' hw'=>⟨(),rfl,trivial,hw'⟩⟩
  ·rw [tick_sub hV ‹_› ‹_› ‹_›];exact ⟨fun w' hw'=>⟨(),rfl,trivial,hw'⟩⟩
  ·rw [tick_to hV ‹_› ‹_› ‹_›];exact ⟨fun w' hw'=>⟨(),rfl,trivial,hw'⟩⟩
 ·have hF:leakF p.lk=.func (.func 235) #[] #[]:=by simp [leakF,hlk]
  have hV:vnext p s x=max p.fl (min 1048576 (leak p s.v+p.bias+max (-4194304) (min 4194304 x))):=by rw [vnext]
  rw [hF] at hw ⊢
  refine enter (C:=Tryz.cx) (F:=Tryz.fx190) (args:=[_,_]) Tryz.func190 rfl rfl rfl Tryz.ok190 (St.start1 hw) ?_
  repeat' (conv=>whnf);first|(refine VCall.is ?_;refine VCall.val (leaks1 p hp hlk _ hv1 hv2) ?_)|(refine VCall.is ?_;refine VCall.val (bounded_any _ _ _) ?_)|refine VSeq.go ?_|refine oS (fun _=>?_) fun _=>?_|refine oL ?_|refine oT ?_|refine oA ?_|refine oK ?_|refine oH ?_
  all_goals (conv=>whnf)
  ·rw [tick_rest ‹_›];exact ⟨fun w' hw'=>⟨(),rfl,trivial,hw'⟩⟩
  ·rw [tick_low hV ‹_› ‹_›];exact ⟨fun w' hw'=>⟨(),rfl,trivial,hw'⟩⟩
  ·rw [tick_sub hV ‹_› ‹_› ‹_›];exact ⟨fun w' hw'=>⟨(),rfl,trivial,hw'⟩⟩
  ·rw [tick_to hV ‹_› ‹_› ‹_›];exact ⟨fun w' hw'=>⟨(),rfl,trivial,hw'⟩⟩
 ·have hF:leakF p.lk=.func (.func 236) #[] #[]:=by simp [leakF,hlk]
  have hV:vnext p s x=max p.fl (min 1048576 (leak p s.v+p.bias+max (-4194304) (min 4194304 x))):=by rw [vnext]
  rw [hF] at hw ⊢
  refine enter (C:=Tryz.cx) (F:=Tryz.fx190) (args:=[_,_]) Tryz.func190 rfl rfl rfl Tryz.ok190 (St.start1 hw) ?_
  repeat' (conv=>whnf);first|(refine VCall.is ?_;refine VCall.val (leaks2 p hp hlk _ hv1 hv2) ?_)|(refine VCall.is ?_;refine VCall.val (bounded_any _ _ _) ?_)|refine VSeq.go ?_|refine oS (fun _=>?_) fun _=>?_|refine oL ?_|refine oT ?_|refine oA ?_|refine oK ?_|refine oH ?_
  all_goals (conv=>whnf)
  ·rw [tick_rest ‹_›];exact ⟨fun w' hw'=>⟨(),rfl,trivial,hw'⟩⟩
  ·rw [tick_low hV ‹_› ‹_›];exact ⟨fun w' hw'=>⟨(),rfl,trivial,hw'⟩⟩
  ·rw [tick_sub hV ‹_› ‹_› ‹_›];exact ⟨fun w' hw'=>⟨(),rfl,trivial,hw'⟩⟩
  ·rw [tick_to hV ‹_› ‹_› ‹_›];exact ⟨fun w' hw'=>⟨(),rfl,trivial,hw'⟩⟩
theorem Tick_ok (p:Par)(s:Sta)(x:Int)(hp:ParOk p)(hs:staOk p s)(w:World):
  Calls Tryz.prog 138 #[.agg (parV p).toArray,.agg (staV s).toArray,.int .i64 x] w fun e w'=>e=.returned (.tuple #[.agg (staV (tick p s x).1).toArray,.bool (tick p s x).2,.int .i64 0])/\St w [] [] w':=by
 have h0:chkS p s=0:=chkS_zero.2 ⟨hp,hs⟩
 refine enter (C:=Tryz.cx) (F:=Tryz.fx138) (args:=[_,_,_]) Tryz.func138 rfl rfl rfl Tryz.ok138 (St.start w []) ?_
 repeat' (conv=>whnf);first|(refine VCall.is ?_;refine VCall.gen (newCell_ok _ hp.wf _ h0) fun b _=>?_)|(refine VCall.is ?_;refine VCall.turn aT (tick_any p s x hp hs _) fun _ _=>?_)|refine VSeq.go ?_|refine oN fun _=>?_|refine oL ?_|refine oT ?_|refine oV fun _=>?_
 all_goals (conv=>whnf)
 all_goals exact ⟨fun w' hw'=>⟨rfl,hw'.le .nil⟩⟩
end Go.Proofs
end
