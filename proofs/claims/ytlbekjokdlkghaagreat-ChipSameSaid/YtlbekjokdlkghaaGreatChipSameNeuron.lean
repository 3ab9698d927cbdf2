import Derived.Test.YtlbekjokdlkghaaGreatChipSameFx
import Derived.Test.YtlbekjokdlkghaaGreatChipSameGa
set_option linter.unusedSimpArgs false
set_option linter.unusedVariables false
namespace Go.Proofs
open Go Go.Vx Go.Gm
def parV (p:Par):List Value:=[.int .i64 p.lk,.int .i64 p.lv,.int .i64 p.bias,.int .i64 p.th,.int .i64 p.rk,.int .i64 p.rs,.int .i64 p.fl,.int .i64 p.rest]
def staV (s:Sta):List Value:=[.int .i64 s.v,.int .i64 s.rest]
theorem within_any (n lo hi:Int)(w:World):
  Calls Tryz.prog 188 #[.int .i64 n,.int .i64 lo,.int .i64 hi] w fun e w'=>∃b:Bool,e=.returned (.bool b)/\(b=true<->lo<=n/\n<=hi)/\St w [] [] w':=by
 refine enter (C:=Tryz.cx) (F:=Tryz.fx188) (args:=[_,_,_]) Tryz.func188 rfl rfl rfl Tryz.ok188 (St.start w []) ?_
 repeat' (conv=>whnf);first|refine VSeq.go ?_|refine oS (fun _=>?_) fun _=>?_|refine oL ?_|refine oT ?_|refine oV fun _=>?_|refine oA ?_
 all_goals (conv=>whnf)
 all_goals exact ⟨fun w' hw'=>⟨_,rfl,by simp;omega,hw'⟩⟩
theorem within_net (n lo hi:Int)(w:World):
  Calls Tryz.prog 135 #[.int .i64 n,.int .i64 lo,.int .i64 hi] w fun e w'=>∃b:Bool,e=.returned (.bool b)/\(b=true<->lo<=n/\n<=hi)/\St w [] [] w':=by
 refine enter (C:=Tryz.cx) (F:=Tryz.fx135) (args:=[_,_,_]) Tryz.func135 rfl rfl rfl Tryz.ok135 (St.start w []) ?_
 repeat' (conv=>whnf);first|refine VSeq.go ?_|refine oS (fun _=>?_) fun _=>?_|refine oL ?_|refine oT ?_|refine oV fun _=>?_|refine oA ?_
 all_goals (conv=>whnf)
 all_goals exact ⟨fun w' hw'=>⟨_,rfl,by simp;omega,hw'⟩⟩
def leakF (k:Int):Value:=
 if k=0 then .func (.func 234) #[] #[] else if k=1 then .func (.func 235) #[] #[] else if k=2 then .func (.func 236) #[] #[] else .nilFunc
def leakM (k:Int):Int:=if k=0 then 0 else if k=1 then 1048576 else if k=2 then 256 else 0
theorem leaks_any (k:Int)(w:World):
  Calls Tryz.prog 187 #[.int .i64 k] w fun e w'=>∃b:Bool,e=.returned (.tuple #[.agg #[.int .i64 (leakM k),leakF k],.bool b])/\(b=true<->0<=k/\k<=2)/\St w [] [] w':=by
 refine enter (C:=Tryz.cx) (F:=Tryz.fx187) (args:=[_]) Tryz.func187 rfl rfl rfl Tryz.ok187 (St.start w []) ?_
 repeat' (conv=>whnf);first|refine VSeq.go ?_|refine oS (fun _=>?_) fun _=>?_|refine oL ?_|refine oT ?_|refine oV fun _=>?_|refine oA ?_
 all_goals (conv=>whnf)
 ·exact ⟨fun w' hw'=>⟨true,by simp [packE,leakM,leakF, *],by simp;omega,hw'.le .nil⟩⟩
 ·exact ⟨fun w' hw'=>⟨true,by simp [packE,leakM,leakF, *],by simp;omega,hw'.le .nil⟩⟩
 ·exact ⟨fun w' hw'=>⟨true,by simp [packE,leakM,leakF, *],by simp;omega,hw'.le .nil⟩⟩
 ·exact ⟨fun w' hw'=>⟨false,by simp [packE,leakM,leakF, *],by simp;omega,hw'.le .nil⟩⟩
theorem leakF_one (k:Int):(leakF k).oneCell'=true:=by
 unfold leakF;split<;>(try split)<;>(try split)<;>rfl
theorem check_any (p:Par)(hp:p.wf)(w:World):
  Calls Tryz.prog 133 #[.agg (parV p).toArray] w fun e w'=>e=.returned (.int .i64 (chk p))/\St w [] [] w':=by
 obtain ⟨h1,h2,h3,h4,h5,h6,h7,h8⟩:=hp
 unfold I64 at*
 have hone:oneAll [.int .i64 (leakM p.lk),leakF p.lk]=true:=by have h:=leakF_one p.lk;simp only [oneAll,h];rfl
 refine enter (C:=Tryz.cx) (F:=Tryz.fx133) (args:=[_]) Tryz.func133 rfl rfl rfl Tryz.ok133 (St.start w []) ?_
 have hm0:p.lk=0->leakM p.lk=0:=by intro h;simp [leakM,h]
 have hm1:p.lk=1->leakM p.lk=1048576:=by intro h;simp [leakM,h]
 have hm2:p.lk=2->leakM p.lk=256:=by intro h;simp [leakM,h]
 repeat' (conv=>whnf);first|(refine VCall.is ?_;refine VCall.ex (leaks_any _) fun b hb=>?_)|(refine VCall.is ?_;refine VCall.bool (within_any _ _ _) ?_)|(refine VAr.is ?_;refine VAr.any fun _ _=>?_)|refine VSeq.go ?_|refine oS (fun _=>?_) fun _=>?_|(refine oB (fun h=>?_) (fun h=>?_)<;>subst h)|refine oL ?_|refine oT ?_|refine oV fun _=>?_|refine oH ?_
 all_goals (conv=>whnf)
 all_goals refine ⟨fun w' hw'=>⟨?_,hw'.le .nil⟩⟩
 all_goals simp only [true_iff,false_iff,QV] at hb
 all_goals first
  |(rw [chk_two (by unfold kindsOk;omega)];rfl)
  |(rw [chk_three (by unfold kindsOk;omega) (by unfold rangeOk leakOk;omega)];rfl)
  |(rw [chk_zero (by unfold kindsOk;omega) (by unfold rangeOk leakOk;omega)];rfl)
theorem leaks0 (p:Par)(v:Int)(w:World):
  Calls Tryz.prog 234 #[.agg (parV p).toArray,.int .i64 v] w fun e w'=>e=.returned (.int .i64 v)/\St w [] [] w':=by
 refine enter (C:=Tryz.cx) (F:=Tryz.fx234) (args:=[_,_]) Tryz.func234 rfl rfl rfl Tryz.ok234 (St.start w []) ?_
 repeat' (conv=>whnf);first|refine VSeq.go ?_|refine oS (fun _=>?_) fun _=>?_|refine oL ?_|refine oT ?_|refine oV fun _=>?_|refine oA ?_
 all_goals (conv=>whnf)
 all_goals exact ⟨fun w' hw'=>⟨rfl,hw'.le .nil⟩⟩
theorem leaks1 (p:Par)(hp:ParOk p)(hk:p.lk=1)(v:Int)(h1: -1048576<=v)(h2:v<=1048576)(w:World):
  Calls Tryz.prog 235 #[.agg (parV p).toArray,.int .i64 v] w fun e w'=>e=.returned (.int .i64 (leak p v))/\St w [] [] w':=by
 have hl:=hp.leak
 unfold leakOk at hl
 refine enter (C:=Tryz.cx) (F:=Tryz.fx235) (args:=[_,_]) Tryz.func235 rfl rfl rfl Tryz.ok235 (St.start w []) ?_
 repeat' (conv=>whnf);first|refine VSeq.go ?_|refine oS (fun _=>?_) fun _=>?_|refine oL ?_|refine oT ?_|refine oV fun _=>?_|refine oA ?_
 all_goals (conv=>whnf)
 all_goals exact ⟨fun w' hw'=>⟨by simp [packE,leak, *],hw'.le .nil⟩⟩
theorem leaks2 (p:Par)(hp:ParOk p)(hk:p.lk=2)(v:Int)(h1: -1048576<=v)(h2:v<=1048576)(w:World):
  Calls Tryz.prog 236 #[.agg (parV p).toArray,.int .i64 v] w fun e w'=>e=.returned (.int .i64 (leak p v))/\St w [] [] w':=by
 have hl:=hp.leak
 unfold leakOk at hl
 have hm:=share_bounds hp hk h1 h2
 have hd:=tdiv_bounds (a:=v*p.lv) (b:=256)
 refine enter (C:=Tryz.cx) (F:=Tryz.fx236) (args:=[_,_]) Tryz.func236 rfl rfl rfl Tryz.ok236 (St.start w []) ?_
 repeat' (conv=>whnf);first|(refine VQ.is ?_;refine VQ.any qZ qZ qZ ?_)|refine VSeq.go ?_|refine oL ?_|refine oV fun _=>?_|refine oA ?_
 all_goals (conv=>whnf)
 all_goals exact ⟨fun w' hw'=>⟨by simp [packE,leak, *],hw'.le .nil⟩⟩
theorem bounded_any (n lo hi:Int)(w:World):
  Calls Tryz.prog 237 #[.int .i64 n,.int .i64 lo,.int .i64 hi] w fun e w'=>e=.returned (.int .i64 (max lo (min hi n)))/\St w [] [] w':=by
 refine enter (C:=Tryz.cx) (F:=Tryz.fx237) (args:=[_,_,_]) Tryz.func237 rfl rfl rfl Tryz.ok237 (St.start w []) ?_
 repeat' (conv=>whnf);first|refine VSeq.go ?_|refine oS (fun _=>?_) fun _=>?_|refine oL ?_|refine oT ?_|refine oV fun _=>?_|refine oA ?_
 all_goals (conv=>whnf)
 all_goals exact ⟨fun w' hw'=>⟨rfl,hw'⟩⟩
theorem valid_any (p:Par)(hp:p.wf)(s:Sta)(w:World):
  Calls Tryz.prog 142 #[.agg (parV p).toArray,.agg (staV s).toArray] w fun e w'=>e=.returned (.int .i64 (chkS p s))/\St w [] [] w':=by
 refine enter (C:=Tryz.cx) (F:=Tryz.fx142) (args:=[_,_]) Tryz.func142 rfl rfl rfl Tryz.ok142 (St.start w []) ?_
 repeat' (conv=>whnf);first|(refine VCall.is ?_;refine VCall.val (check_any p hp) ?_)|(refine VCall.is ?_;refine VCall.bool (within_any _ _ _) ?_)|refine VSeq.go ?_|refine oS (fun _=>?_) fun _=>?_|refine oL ?_|refine oV fun _=>?_
 all_goals (conv=>whnf)
 all_goals refine ⟨fun w' hw'=>⟨?_,hw'.le .nil⟩⟩
 all_goals refine congrArg (fun x=>Ending.returned (.int .i64 x)) ?_
 all_goals unfold chkS staOk
 all_goals (repeat' split)<;>first|rfl|omega
def cellW (p:Par)(s:Sta)(F:Value):List Value:=[.int .i64 p.lk,.int .i64 p.lv,.int .i64 p.bias,.int .i64 p.th,.int .i64 p.rk,.int .i64 p.rs,.int .i64 p.fl,.int .i64 p.rest,.int .i64 s.v,.int .i64 s.rest,F]
def cellV (p:Par)(s:Sta):List Value:=cellW p s (leakF p.lk)
theorem newCell_ok (p:Par)(hp:p.wf)(s:Sta)(h:chkS p s=0)(w:World):
  Calls Tryz.prog 189 #[.agg (parV p).toArray,.agg (staV s).toArray] w fun e w'=>∃b:Nat,e=.returned (.tuple #[.pointer (some ⟨b,0,none⟩),.int .i64 0])/\True/\St w [] [.row b 357 (cellV p s)] w':=by
 have hlk:p.lk=0\/p.lk=1\/p.lk=2:=by have:=(chkS_zero.1 h).1.lk;omega
 obtain ⟨lk,lv,bias,th,rk,rs,fl,rest⟩:=p
 dsimp only at hlk
 rcases hlk with rfl|rfl|rfl
 all_goals refine enter (C:=Tryz.cx) (F:=Tryz.fx189) (args:=[_,_]) Tryz.func189 rfl rfl rfl Tryz.ok189 (St.start w []) ?_
 repeat' (conv=>whnf);first|(refine VCall.is ?_;refine VCall.val (valid_any _ hp _) ?_)|(refine VCall.is ?_;refine VCall.ex (leaks_any _) fun b hb=>?_)|(refine VB.is ?_;refine VB.split (fun hn=>absurd h hn) (fun _=>?_))|refine VSeq.go ?_|refine oL ?_|refine oT ?_|refine oV fun _=>?_
 all_goals (conv=>whnf)
 all_goals exact ⟨fun w' hw'=>⟨_,rfl,trivial,hw'.le (.cons .here .nil)⟩⟩
theorem tick_any (p:Par)(s:Sta)(x:Int)(hp:ParOk p)(hs:staOk p s)(b:Nat)(w:World)(hw:w.heap[b]? =some (.cells (cellV p s).toArray 357 (0,0))):
  Calls Tryz.prog 190 #[.pointer (some ⟨b,0,none⟩),.int .i64 x] w fun e w'=>∃_:Unit,e=.returned (.bool (tick p s x).2)/\True/\St w [b] [.row b 357 (cellV p (tick p s x).1)] w':=by
 have hlk:p.lk=0\/p.lk=1\/p.lk=2:=by have:=hp.lk;omega
 have hv1: -1048576<=s.v:=by have:=hp.fl;have:=hs.1;omega
 have hv2:s.v<=1048576:=hs.1.2
 have hb:=leak_bounds hp (v:=s.v) hv1 hv2
 have hbias:=hp.bias
 have hth:=hp.th
 have hfl:=hp.fl
 have hr:=hs.2
 have hrest:=hp.rest
 unfold cellV at*
 rcases hlk with hlk|hlk|hlk
 ·have hF:leakF p.lk=.func (.func 234) #[] #[]:=by simp [leakF,hlk]
  have hl:leak p s.v=s.v:=by simp [leak,hlk]
  have hV:vnext p s x=max p.fl (min 1048576 (s.v+p.bias+max (-4194304) (min 4194304 x))):=by rw [vnext,hl]
  rw [hF] at hw ⊢
  refine enter (C:=Tryz.cx) (F:=Tryz.fx190) (args:=[_,_]) Tryz.func190 rfl rfl rfl Tryz.ok190 (St.start1 hw) ?_
  repeat' (conv=>whnf);first|(refine VCall.is ?_;refine VCall.val (leaks0 _ _) ?_)|(refine VCall.is ?_;refine VCall.val (bounded_any _ _ _) ?_)|refine VSeq.go ?_|refine oS (fun _=>?_) fun _=>?_|refine oL ?_|refine oT ?_|refine oA ?_|refine oK ?_|refine oH ?_
  all_goals (conv=>whnf)
  ·rw [tick_rest ‹_›];exact ⟨fun w' hw'=>⟨(),rfl,trivial,hw'⟩⟩
  ·rw [tick_low hV ‹_› ‹_›];exact ⟨fun w' hw'=>⟨(),rfl,trivial,hw'⟩⟩
  ·rw [tick_sub hV ‹_› ‹_› ‹_›];exact ⟨fun w' hw'=>⟨(),rfl,trivial,hw'⟩⟩
  ·rw [tick_to hV ‹_› ‹_› ‹_›];exact ⟨fun w' hw'=>⟨(),rfl,trivial,hw'⟩⟩
 ·have hF:leakF p.lk=.func (.func 235) #[] #[]:=by simp [leakF,hlk]
  have hV:vnext p s x=max p.fl (min 1048576 (leak p s.v+p.bias+max (-4194304) (min 4194304 x))):=by rw [vnext]
  rw [hF] at hw ⊢
  refine enter (C:=Tryz.cx) (F:=Tryz.fx190) (args:=[_,_]) Tryz.func190 rfl rfl rfl Tryz.ok190 (St.start1 hw) ?_
  repeat' (conv=>whnf);first|(refine VCall.is ?_;refine VCall.val (leaks1 p hp hlk _ hv1 hv2) ?_)|(refine VCall.is ?_;refine VCall.val (bounded_any _ _ _) ?_)|refine VSeq.go ?_|refine oS (fun _=>?_) fun _=>?_|refine oL ?_|refine oT ?_|refine oA ?_|refine oK ?_|refine oH ?_
  all_goals (conv=>whnf)
  ·rw [tick_rest ‹_›];exact ⟨fun w' hw'=>⟨(),rfl,trivial,hw'⟩⟩
  ·rw [tick_low hV ‹_› ‹_›];exact ⟨fun w' hw'=>⟨(),rfl,trivial,hw'⟩⟩
  ·rw [tick_sub hV ‹_› ‹_› ‹_›];exact ⟨fun w' hw'=>⟨(),rfl,trivial,hw'⟩⟩
  ·rw [tick_to hV ‹_› ‹_› ‹_›];exact ⟨fun w' hw'=>⟨(),rfl,trivial,hw'⟩⟩
 ·have hF:leakF p.lk=.func (.func 236) #[] #[]:=by simp [leakF,hlk]
  have hV:vnext p s x=max p.fl (min 1048576 (leak p s.v+p.bias+max (-4194304) (min 4194304 x))):=by rw [vnext]
  rw [hF] at hw ⊢
  refine enter (C:=Tryz.cx) (F:=Tryz.fx190) (args:=[_,_]) Tryz.func190 rfl rfl rfl Tryz.ok190 (St.start1 hw) ?_
  repeat' (conv=>whnf);first|(refine VCall.is ?_;refine VCall.val (leaks2 p hp hlk _ hv1 hv2) ?_)|(refine VCall.is ?_;refine VCall.val (bounded_any _ _ _) ?_)|refine VSeq.go ?_|refine oS (fun _=>?_) fun _=>?_|refine oL ?_|refine oT ?_|refine oA ?_|refine oK ?_|refine oH ?_
  all_goals (conv=>whnf)
  ·rw [tick_rest ‹_›];exact ⟨fun w' hw'=>⟨(),rfl,trivial,hw'⟩⟩
  ·rw [tick_low hV ‹_› ‹_›];exact ⟨fun w' hw'=>⟨(),rfl,trivial,hw'⟩⟩
  ·rw [tick_sub hV ‹_› ‹_› ‹_›];exact ⟨fun w' hw'=>⟨(),rfl,trivial,hw'⟩⟩
  ·rw [tick_to hV ‹_› ‹_› ‹_›];exact ⟨fun w' hw'=>⟨(),rfl,trivial,hw'⟩⟩
theorem Tick_ok (p:Par)(s:Sta)(x:Int)(hp:ParOk p)(hs:staOk p s)(w:World):
  Calls Tryz.prog 138 #[.agg (parV p).toArray,.agg (staV s).toArray,.int .i64 x] w fun e w'=>e=.returned (.tuple #[.agg (staV (tick p s x).1).toArray,.bool (tick p s x).2,.int .i64 0])/\St w [] [] w':=by
 have h0:chkS p s=0:=chkS_zero.2 ⟨hp,hs⟩
 refine enter (C:=Tryz.cx) (F:=Tryz.fx138) (args:=[_,_,_]) Tryz.func138 rfl rfl rfl Tryz.ok138 (St.start w []) ?_
 repeat' (conv=>whnf);first|(refine VCall.is ?_;refine VCall.gen (newCell_ok _ hp.wf _ h0) fun b _=>?_)|(refine VCall.is ?_;refine VCall.turn aT (tick_any p s x hp hs _) fun _ _=>?_)|refine VSeq.go ?_|refine oN fun _=>?_|refine oL ?_|refine oT ?_|refine oV fun _=>?_
 all_goals (conv=>whnf)
 all_goals exact ⟨fun w' hw'=>⟨rfl,hw'.le .nil⟩⟩
end Go.Proofs
