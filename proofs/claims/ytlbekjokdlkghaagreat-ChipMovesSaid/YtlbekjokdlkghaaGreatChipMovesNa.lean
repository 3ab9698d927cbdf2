import Derived.Test.YtlbekjokdlkghaaGreatChipMovesNeuron
import Derived.Test.YtlbekjokdlkghaaGreatChipMovesVb
import Derived.Test.YtlbekjokdlkghaaGreatChipMovesGa
section
set_option linter.unusedVariables false
namespace Go.Proofs
open Go Go.Vx Go.Gm
theorem _root_.Go.Vx.Rd.cast {w0:World}{M:List Nat}{H:HP}{b off off' s:Nat}{vs:List Value}(h:Rd w0 M H b off s vs)(he:off'=off):Rd w0 M H b off' s vs:=he▸h
theorem _root_.Go.Vx.oC {w0:World}{M:List Nat}{H:HP}{b off off' s:Nat}{k:List Value->Prop}{vs:List Value}(h:Rd w0 M H b off s vs)(hk:k vs)(he:off'=off:=by first|omega|(dsimp only;omega)|rfl):VLd w0 M H b off' s k:=.mk (Rd.cast h he) hk
def bP1 (s:Syn):List Value:=[.int .i64 s.frm,.int .i64 s.to,.int .i64 s.wt,.int .i64 s.dl]
def cP1 (x:Evt):List Value:=[.int .i64 x.tick,.int .i64 x.id]
theorem gD3 (N:Net)(hi:0<=N.inputs/\N.inputs<=256)(hl:N.ps.length<=1024)(pn:Option Addr)(cn:Nat)(sv:Value)(k:Int)(w:World):
  Calls Tryz.prog 134 #[.agg #[.slice pn N.ps.length cn,.int .i64 N.inputs,sv],.int .i64 k] w fun e w'=>∃b:Bool,e=.returned (.bool b)/\(b=true<->cT4 N k)/\St w [] [] w':=by
 refine enter (C:=Tryz.cx) (F:=lP1) (args:=[_,_]) Tryz.func134 rfl rfl rfl mX2 (St.start w []) ?_
 repeat' (conv=>whnf);first|(refine VCall.is ?_;refine VCall.ex (bF9 _ _ _) fun b hb=>?_)|refine VSeq.go ?_|refine oL ?_|refine oV fun _=>?_|refine oA ?_
 all_goals (conv=>whnf)
 all_goals exact ⟨fun w' hw'=>⟨_,rfl,by unfold cT4;rw [hb];omega,hw'.le .nil⟩⟩
theorem bT4 (N:Net)(hN:N.wf)(pn:Option Addr)(cn bn on:Nat)(qs:Option Addr)(cs bs os:Nat)(w:World)(h1:Sl w bH3 8 N.ps pn N.ps.length bn on)(h2:Sl w bP1 4 N.syns qs N.syns.length bs os):
  Calls Tryz.prog 78 #[.agg #[.slice pn N.ps.length cn,.int .i64 N.inputs,.slice qs N.syns.length cs]] w fun e w'=>e=.returned (.int .i64 (bG3 N))/\St w [] [] w':=by
 have hin:=hN.inputs
 unfold I64 at hin
 refine enter (C:=Tryz.cx) (F:=mG8) (args:=[_]) Tryz.func78 rfl rfl rfl ok78 (St.start w []) ?_
 repeat' (conv=>whnf);first|(refine VNew.mk fun b1=>?_)|refine VSeq.go ?_|refine oS (fun _=>?_) fun _=>?_|refine oL ?_
 all_goals (conv=>whnf)
 ·exact ⟨fun w' hw'=>⟨by rw [gN8 qZ];rfl,hw'.le .nil⟩⟩
 ·exact ⟨fun w' hw'=>⟨by rw [cB3 qZ qZ];rfl,hw'.le .nil⟩⟩
 ·exact ⟨fun w' hw'=>⟨by rw [cB3 qZ qZ];rfl,hw'.le .nil⟩⟩
 ·exact ⟨fun w' hw'=>⟨by rw [cB3 qZ qZ];rfl,hw'.le .nil⟩⟩
 ·exact ⟨fun w' hw'=>⟨by rw [fF6 qZ qZ qZ];rfl,hw'.le .nil⟩⟩
 refine VLoop.mk (α:=Nat) (fun i=>i<=N.ps.length/\bV4 N.ps=bV4 (N.ps.drop i))
  (fun i=>[(1000000,.tuple #[]),(1,.pointer (some ⟨b1,0,none⟩)),(34,.slice pn N.ps.length cn),(35,.int .i64 (N.ps.length:Int)),(36,.int .i64 (i:Int))])
  (fun _=>[.row b1 25 [.slice pn N.ps.length cn,.int .i64 N.inputs,.slice qs N.syns.length cs]]) (fun i=>N.ps.length - i) 0 ⟨by omega,rfl⟩ aE aH ?_
 rintro i ⟨hi,hf⟩
 rcases qy i N.ps.length with hlt|hge
 ·obtain ⟨p,hp⟩:=h1.get hlt
  have hwf:=hN.ps p (qz hp)
  repeat' (conv=>whnf);first|(refine VIx.is ?_;refine VIx.mk (h1.ptr qZ) qZ qZ ?_)|(refine VLd.is ?_;refine VLd.mk (h1.rd0 oU oR hp rfl) ?_)|(refine VCall.is ?_;refine VCall.val (fM1 p hwf) ?_)|refine VSeq.go ?_|refine oY fun _=>?_|refine oS (fun _=>?_) fun _=>?_|refine oL ?_|refine oT ?_|refine oV fun _=>?_|refine oA ?_
  all_goals (conv=>whnf)
  ·have:=fP2 hp ‹_›
   exact ⟨fun w' hw'=>⟨by rw [gN7 qZ qZ qZ (by rw [hf,this];assumption),hf,this];rfl,hw'.le .nil⟩⟩
  ·refine VNext.mk (i+1) ⟨by omega,?_⟩ qZ aE aH
   rw [hf,fZ4 hp qZ]
 ·have hf0:bV4 N.ps=0:=by rw [hf,Qi hge];rfl
  repeat' (conv=>whnf);first|refine VSeq.go ?_|refine oN fun _=>?_|refine oL ?_
  all_goals (conv=>whnf)
  refine VLoop.mk (α:=Nat) (fun i=>i<=N.syns.length/\bS7 N N.syns=bS7 N (N.syns.drop i))
   (fun i=>[(1000000,.tuple #[]),(1,.pointer (some ⟨b1,0,none⟩)),(47,.slice qs N.syns.length cs),(48,.int .i64 (N.syns.length:Int)),(49,.int .i64 (i:Int))])
   (fun _=>[.row b1 25 [.slice pn N.ps.length cn,.int .i64 N.inputs,.slice qs N.syns.length cs]]) (fun i=>N.syns.length - i) 0 ⟨by omega,rfl⟩ aE aH ?_
  rintro j ⟨hj,hg⟩
  rcases qy j N.syns.length with hlt|hge
  ·obtain ⟨s,hs⟩:=h2.get hlt
   have hwf:=hN.syns s (qz hs)
   unfold Syn.wf I64 at hwf
   repeat' (conv=>whnf);first|(refine VIx.is ?_;refine VIx.mk (h2.ptr qZ) qZ qZ ?_)|(refine VLd.is ?_;refine VLd.mk (h2.rd0 oU oR hs rfl) ?_)|(refine VCall.is ?_;refine VCall.bool (gD3 N qZ qZ _ _ _ _) ?_)|(refine VCall.is ?_;refine VCall.bool (bF9 _ _ _) ?_)|refine VSeq.go ?_|refine oY fun _=>?_|refine oS (fun _=>?_) fun _=>?_|refine oL ?_|refine oT ?_|refine oV fun _=>?_|refine oA ?_
   all_goals (conv=>whnf)
   all_goals first
    |exact ⟨fun w' hw'=>⟨by rw [dC7 qZ qZ qZ hf0,hg,gD1 hs (by simp only [dX9,cT4] at*;omega)];rfl,hw'.le .nil⟩⟩
    |(refine VNext.mk (j+1) ⟨by omega,?_⟩ qZ aE aH
      rw [hg,fT6 hs (by simp only [dX9,cT4] at*;omega)])
  ·repeat' (conv=>whnf);first|refine VSeq.go ?_|refine oN fun _=>?_
   all_goals (conv=>whnf)
   exact ⟨fun w' hw'=>⟨by rw [dC7 qZ qZ qZ hf0,hg,Qi hge];rfl,hw'.le .nil⟩⟩
end Go.Proofs
end
section
set_option linter.unusedVariables false
namespace Go.Proofs
open Go Go.Vx Go.Gm
def bQ6 (k:Int):List Value:=[.int .i64 k]
theorem fS7 (N:Net)(hi:0<=N.inputs/\N.inputs<=256)(l:List Evt)(hl:∀x∈l,x.wf)(limit:Int)(hlim:0<=limit/\limit<=1073741824)(nv sv:Value)(p:Option Addr)(c b o:Nat)(w:World)(h1:Sl w cP1 2 l p l.length b o):
  Calls Tryz.prog 136 #[.agg #[nv,.int .i64 N.inputs,sv],.slice p l.length c,.int .i64 limit] w fun e w'=>e=.returned (.int .i64 (gX6 N.inputs limit l))/\St w [] [] w':=by
 refine enter (C:=Tryz.cx) (F:=lB9) (args:=[_,_,_]) Tryz.func136 rfl rfl rfl mX0 (St.start w []) ?_
 repeat' (conv=>whnf);first|(refine VNew.mk fun b1=>?_)|refine VSeq.go ?_|refine oS (fun _=>?_) fun _=>?_|refine oL ?_
 all_goals (conv=>whnf)
 ·exact ⟨fun w' hw'=>⟨by unfold gX6;rw [jw qZ];rfl,hw'.le .nil⟩⟩
 have he:gX6 N.inputs limit l=bC1 N.inputs limit none l:=by unfold gX6;rw [jk qZ]
 refine VLoop.mk (α:=Nat) (fun i=>i<=l.length/\bC1 N.inputs limit none l=bC1 N.inputs limit (cJ1 l i) (l.drop i))
  (fun i=>[(1000000,.tuple #[]),(1,.slice p l.length c),(2,.int .i64 limit),(3,.pointer (some ⟨b1,0,none⟩)),(12,.slice p l.length c),(13,.int .i64 (l.length:Int)),(14,.int .i64 (i:Int))])
  (fun _=>[.row b1 25 [nv,.int .i64 N.inputs,sv]]) (fun i=>l.length - i) 0 ⟨by omega,rfl⟩ aE aH ?_
 rintro i ⟨hi',hf⟩
 rcases qy i l.length with hlt|hge
 ·obtain ⟨x,hx⟩:=h1.get hlt
  cases i with
  |zero=>
   have hn:¬bR4 x (cJ1 l 0):=fun h=>h
   repeat' (conv=>whnf);first|(refine VIx.is ?_;refine VIx.mk (h1.ptr qZ) qZ qZ ?_)|(refine VLd.is ?_;refine VLd.mk (Rd.cast (h1.rd (o:=0) (s:=2) (by simp) (fun _=>rfl) hx rfl) (by (try dsimp only);omega)) ?_)|(refine VCall.is ?_;refine VCall.bool (bF9 _ _ _) ?_)|refine VSeq.go ?_|refine oY fun _=>?_|refine oN fun _=>?_|refine oS (fun _=>?_) fun _=>?_|refine oL ?_|refine oT ?_|refine oV fun _=>?_|refine oA ?_|refine oH ?_
   all_goals (conv=>whnf)
   all_goals first
    |exact ⟨fun w' hw'=>⟨by rw [he,hf,dC5 hx (by unfold cN9;omega)];rfl,hw'.le .nil⟩⟩
    |(refine VNext.mk (0+1) ⟨by omega,?_⟩ qZ aE aH
      rw [hf,dG4 hx (by unfold cN9;omega) hn])
  |succ k=>
   obtain ⟨y,hy⟩:=h1.get (i:=k) qZ
   have hp:cJ1 l (k+1)=some y:=hy
   have hbh:bR4 x (cJ1 l (k+1))<->dQ9 y x:=by rw [hp];rfl
   repeat' (conv=>whnf);first|(refine VIx.is ?_;refine VIx.mk (h1.ptr qZ) qZ qZ ?_)|(refine VLd.is ?_;refine VLd.mk (Rd.cast (h1.rd (o:=0) (s:=2) (by simp) (fun _=>rfl) hx rfl) (by (try dsimp only);omega)) ?_)|(refine VLd.is ?_;refine VLd.mk (Rd.cast (h1.rd (o:=0) (s:=1) (by simp) (fun _=>rfl) hy rfl) (by (try dsimp only);omega)) ?_)|(refine VLd.is ?_;refine VLd.mk (Rd.cast (h1.rd (o:=1) (s:=1) (by simp) (fun _=>rfl) hy rfl) (by (try dsimp only);omega)) ?_)|(refine VCall.is ?_;refine VCall.bool (bF9 _ _ _) ?_)|refine VSeq.go ?_|refine oY fun _=>?_|refine oS (fun _=>?_) fun _=>?_|refine oL ?_|refine oT ?_|refine oV fun _=>?_|refine oA ?_|refine oH ?_
   all_goals (conv=>whnf)
   all_goals first
    |exact ⟨fun w' hw'=>⟨by rw [he,hf,dC5 hx (by unfold cN9;omega)];rfl,hw'.le .nil⟩⟩
    |exact ⟨fun w' hw'=>⟨by rw [he,hf,fS8 hx (by unfold cN9;omega) (hbh.2 (by unfold dQ9;omega))];rfl,hw'.le .nil⟩⟩
    |(refine VNext.mk (k+1+1) ⟨by omega,?_⟩ qZ aE aH
      rw [hf,dG4 hx (by unfold cN9;omega) (fun h=>by have:=hbh.1 h;unfold dQ9 at this;omega)])
 ·repeat' (conv=>whnf);first|refine VSeq.go ?_|refine oN fun _=>?_
  all_goals (conv=>whnf)
  exact ⟨fun w' hw'=>⟨by rw [he,hf,Qi hge];rfl,hw'.le .nil⟩⟩
theorem fK1 (N:Net)(hi:0<=N.inputs/\N.inputs<=256)(l:List Int)(nv sv:Value)(p:Option Addr)(c b o:Nat)(w:World)(h1:Sl w bQ6 1 l p l.length b o)(hbig:l.length<9223372036854775807):
  Calls Tryz.prog 90 #[.agg #[nv,.int .i64 N.inputs,sv],.slice p l.length c] w fun e w'=>e=.returned (.int .i64 (bP9 N.inputs none l))/\St w [] [] w':=by
 refine enter (C:=Tryz.cx) (F:=mG1) (args:=[_,_]) Tryz.func90 rfl rfl rfl ok90 (St.start w []) ?_
 repeat' (conv=>whnf);first|(refine VNew.mk fun b1=>?_)|refine VSeq.go ?_|refine oS (fun _=>?_) fun _=>?_|refine oL ?_
 all_goals (conv=>whnf)
 refine VLoop.mk (α:=Nat) (fun i=>i<=l.length/\bP9 N.inputs none l=bP9 N.inputs (cJ1 l i) (l.drop i))
  (fun i=>[(1000000,.tuple #[]),(1,.slice p l.length c),(2,.pointer (some ⟨b1,0,none⟩)),(7,.slice p l.length c),(8,.int .i64 (l.length:Int)),(9,.int .i64 (i:Int))])
  (fun _=>[.row b1 25 [nv,.int .i64 N.inputs,sv]]) (fun i=>l.length - i) 0 ⟨by omega,rfl⟩ aE aH ?_
 rintro i ⟨hi',hf⟩
 rcases qy i l.length with hlt|hge
 ·obtain ⟨x,hx⟩:=h1.get hlt
  cases i with
  |zero=>
   have hn:¬bD7 x (cJ1 l 0):=fun h=>h
   repeat' (conv=>whnf);first|(refine VIx.is ?_;refine VIx.mk (h1.ptr qZ) qZ qZ ?_)|(refine VLd.is ?_;refine VLd.mk (Rd.cast (h1.rd (o:=0) (s:=1) (by simp) (fun _=>rfl) hx rfl) (by (try dsimp only);omega)) ?_)|(refine VCall.is ?_;refine VCall.bool (bF9 _ _ _) ?_)|refine VSeq.go ?_|refine oY fun _=>?_|refine oN fun _=>?_|refine oS (fun _=>?_) fun _=>?_|refine oL ?_|refine oA ?_
   all_goals (conv=>whnf)
   all_goals first
    |exact ⟨fun w' hw'=>⟨by rw [hf,dS0 hx (by unfold cN5;omega)];rfl,hw'.le .nil⟩⟩
    |(refine VNext.mk (0+1) ⟨by omega,?_⟩ qZ aE aH
      rw [hf,dP1 hx (by unfold cN5;omega) hn])
  |succ k=>
   obtain ⟨y,hy⟩:=h1.get (i:=k) qZ
   have hp:cJ1 l (k+1)=some y:=hy
   have hbh:bD7 x (cJ1 l (k+1))<->x<=y:=by rw [hp];rfl
   repeat' (conv=>whnf);first|(refine VIx.is ?_;refine VIx.mk (h1.ptr qZ) qZ qZ ?_)|(refine VLd.is ?_;refine VLd.mk (Rd.cast (h1.rd (o:=0) (s:=1) (by simp) (fun _=>rfl) hx rfl) (by (try dsimp only);omega)) ?_)|(refine VLd.is ?_;refine VLd.mk (Rd.cast (h1.rd (o:=0) (s:=1) (by simp) (fun _=>rfl) hy rfl) (by (try dsimp only);omega)) ?_)|(refine VCall.is ?_;refine VCall.bool (bF9 _ _ _) ?_)|refine VSeq.go ?_|refine oY fun _=>?_|refine oS (fun _=>?_) fun _=>?_|refine oL ?_|refine oA ?_
   all_goals (conv=>whnf)
   all_goals first
    |exact ⟨fun w' hw'=>⟨by rw [hf,dS0 hx (by unfold cN5;omega)];rfl,hw'.le .nil⟩⟩
    |exact ⟨fun w' hw'=>⟨by rw [hf,gZ7 hx (by unfold cN5;omega) (hbh.2 qZ)];rfl,hw'.le .nil⟩⟩
    |(refine VNext.mk (k+1+1) ⟨by omega,?_⟩ qZ aE aH
      rw [hf,dP1 hx (by unfold cN5;omega) (fun h=>by have:=hbh.1 h;omega)])
 ·repeat' (conv=>whnf);first|refine VSeq.go ?_|refine oN fun _=>?_
  all_goals (conv=>whnf)
  exact ⟨fun w' hw'=>⟨by rw [hf,Qi hge];rfl,hw'.le .nil⟩⟩
def bY6 (N:Net)(l:List Evt)(ticks limit:Int):Int:=if bG3 N≠0 then bG3 N else if¬(0<=ticks/\ticks<=limit) then 3 else gX6 N.inputs limit l
theorem fG8 (N:Net)(hN:N.wf)(l:List Evt)(hl:∀x∈l,x.wf)(ticks limit:Int)(hlim:0<=limit/\limit<=1073741824)(pn:Option Addr)(cn bn on:Nat)(qs:Option Addr)(cs bs os:Nat)(p:Option Addr)(c b o:Nat)(w:World)
  (h1:Sl w bH3 8 N.ps pn N.ps.length bn on) (h2:Sl w bP1 4 N.syns qs N.syns.length bs os) (h3:Sl w cP1 2 l p l.length b o):
  Calls Tryz.prog 85 #[.agg #[.slice pn N.ps.length cn,.int .i64 N.inputs,.slice qs N.syns.length cs],.slice p l.length c,.int .i64 ticks,.int .i64 limit] w fun e w'=>e=.returned (.int .i64 (bY6 N l ticks limit))/\St w [] [] w':=by
 have hok:=@bJ4 N
 refine enter (C:=Tryz.cx) (F:=mG5) (args:=[_,_,_,_]) Tryz.func85 rfl rfl rfl ok85 (St.start w []) ?_
 repeat' (conv=>whnf);first|(refine VCall.is ?_;refine bQ4 (fun w' hw'=>bT4 N hN _ _ _ _ _ _ _ _ _ (h1.keep hw' oU) (h2.keep hw' oU)) ?_)|(refine VCall.is ?_;refine bQ4 (fun w' hw'=>fS7 N (hok.1 qZ).inputs l hl limit hlim _ _ _ _ _ _ _ (h3.keep hw' oU)) ?_)|(refine VCall.is ?_;refine VCall.bool (bF9 _ _ _) ?_)|refine VSeq.go ?_|refine oS (fun _=>?_) fun _=>?_|refine oL ?_|refine oV fun _=>?_
 all_goals (conv=>whnf)
 all_goals refine ⟨fun w' hw'=>⟨?_,hw'.le .nil⟩⟩
 all_goals refine congrArg (fun x=>Ending.returned (.int .i64 x)) ?_
 all_goals unfold bY6
 all_goals (repeat' split)<;>first|rfl|omega
end Go.Proofs
end
section
set_option linter.unusedVariables false
namespace Go.Proofs
open Go Go.Vx Go.Gm
theorem cW8 (l:List Par)(p:Option Addr)(c b o:Nat)(w:World)(h1:Sl w bH3 8 l p l.length b o)(hb:l.length<=65536):
  Calls Tryz.prog 80 #[.slice p l.length c] w fun e w'=>∃x:Option Addr×Nat,e=.returned (.slice x.1 l.length x.2)/\(0<l.length->∃g,x.1=some ⟨g,0,none⟩)/\St w [] [.vec x.1 l.length x.2 140 8 (bQ1 bH3 l)] w':=by
 have hs:=h1.src (w0:=w) (M:=[]) (H:=[]) oU oR
 clear hs
 rcases h1.cases with ⟨a,h2⟩|⟨h2,h3⟩
 ·subst h2
  refine enter (C:=Tryz.cx) (F:=mJ7) (args:=[_]) Tryz.func80 rfl rfl rfl mW9 (St.start w []) ?_
  repeat' (conv=>whnf);first|(refine VAp.is ?_;refine VAp.own aT (h1.src (by simp) (fun _=>rfl)) (bZ5 (by simp [bH3,Value.oneCell'])) ((by (try dsimp only);omega)) (by simp only [maxLen];omega) fun p' cap' hp'=>?_)|refine VSeq.go ?_|refine oV fun _=>?_
  all_goals (conv=>whnf)
  refine ⟨fun w' hw'=>⟨(p',cap'),by simp [cV1],fun h=>hp' qZ,?_⟩⟩
  rw [Qo] at hw'
  exact hw'.le aH
 ·subst h2
  have hl:l=[]:=qF h3
  subst hl
  refine enter (C:=Tryz.cx) (F:=mJ7) (args:=[_]) Tryz.func80 rfl rfl rfl mW9 (St.start w []) ?_
  repeat' (conv=>whnf);first|refine VSeq.go ?_|refine oN fun _=>?_|refine oL ?_
  all_goals (conv=>whnf)
  exact ⟨fun w' hw'=>⟨(none,0),rfl,fun h=>absurd h oU,hw'.le (.nilv .nil)⟩⟩
theorem fD7 (l:List Syn)(p:Option Addr)(c b o:Nat)(w:World)(h1:Sl w bP1 4 l p l.length b o)(hb:l.length<=65536):
  Calls Tryz.prog 81 #[.slice p l.length c] w fun e w'=>∃x:Option Addr×Nat,e=.returned (.slice x.1 l.length x.2)/\(0<l.length->∃g,x.1=some ⟨g,0,none⟩)/\St w [] [.vec x.1 l.length x.2 154 4 (bQ1 bP1 l)] w':=by
 have hs:=h1.src (w0:=w) (M:=[]) (H:=[]) oU oR
 clear hs
 rcases h1.cases with ⟨a,h2⟩|⟨h2,h3⟩
 ·subst h2
  refine enter (C:=Tryz.cx) (F:=mJ6) (args:=[_]) Tryz.func81 rfl rfl rfl mW8 (St.start w []) ?_
  repeat' (conv=>whnf);first|(refine VAp.is ?_;refine VAp.own aT (h1.src (by simp) (fun _=>rfl)) (bZ5 (by simp [bP1,Value.oneCell'])) ((by (try dsimp only);omega)) (by simp only [maxLen];omega) fun p' cap' hp'=>?_)|refine VSeq.go ?_|refine oV fun _=>?_
  all_goals (conv=>whnf)
  refine ⟨fun w' hw'=>⟨(p',cap'),by simp [cV1],fun h=>hp' qZ,?_⟩⟩
  rw [Qo] at hw'
  exact hw'.le aH
 ·subst h2
  have hl:l=[]:=qF h3
  subst hl
  refine enter (C:=Tryz.cx) (F:=mJ6) (args:=[_]) Tryz.func81 rfl rfl rfl mW8 (St.start w []) ?_
  repeat' (conv=>whnf);first|refine VSeq.go ?_|refine oN fun _=>?_|refine oL ?_
  all_goals (conv=>whnf)
  exact ⟨fun w' hw'=>⟨(none,0),rfl,fun h=>absurd h oU,hw'.le (.nilv .nil)⟩⟩
theorem fD8 (l:List Sta)(p:Option Addr)(c b o:Nat)(w:World)(h1:Sl w cJ6 2 l p l.length b o)(hb:l.length<=65536):
  Calls Tryz.prog 92 #[.slice p l.length c] w fun e w'=>∃x:Option Addr×Nat,e=.returned (.slice x.1 l.length x.2)/\(0<l.length->∃g,x.1=some ⟨g,0,none⟩)/\St w [] [.vec x.1 l.length x.2 126 2 (bQ1 cJ6 l)] w':=by
 have hs:=h1.src (w0:=w) (M:=[]) (H:=[]) oU oR
 clear hs
 rcases h1.cases with ⟨a,h2⟩|⟨h2,h3⟩
 ·subst h2
  refine enter (C:=Tryz.cx) (F:=mJ3) (args:=[_]) Tryz.func92 rfl rfl rfl mW5 (St.start w []) ?_
  repeat' (conv=>whnf);first|(refine VAp.is ?_;refine VAp.own aT (h1.src (by simp) (fun _=>rfl)) (bZ5 (by simp [cJ6,Value.oneCell'])) ((by (try dsimp only);omega)) (by simp only [maxLen];omega) fun p' cap' hp'=>?_)|refine VSeq.go ?_|refine oV fun _=>?_
  all_goals (conv=>whnf)
  refine ⟨fun w' hw'=>⟨(p',cap'),by simp [cV1],fun h=>hp' qZ,?_⟩⟩
  rw [Qo] at hw'
  exact hw'.le aH
 ·subst h2
  have hl:l=[]:=qF h3
  subst hl
  refine enter (C:=Tryz.cx) (F:=mJ3) (args:=[_]) Tryz.func92 rfl rfl rfl mW5 (St.start w []) ?_
  repeat' (conv=>whnf);first|refine VSeq.go ?_|refine oN fun _=>?_|refine oL ?_
  all_goals (conv=>whnf)
  exact ⟨fun w' hw'=>⟨(none,0),rfl,fun h=>absurd h oU,hw'.le (.nilv .nil)⟩⟩
theorem dX2 (l:List Int)(p:Option Addr)(c b o:Nat)(w:World)(h1:Sl w bQ6 1 l p l.length b o)(hb:l.length<=65536):
  Calls Tryz.prog 56 #[.slice p l.length c] w fun e w'=>∃x:Option Addr×Nat,e=.returned (.slice x.1 l.length x.2)/\(0<l.length->∃g,x.1=some ⟨g,0,none⟩)/\St w [] [.vec x.1 l.length x.2 3 1 (bQ1 bQ6 l)] w':=by
 have hs:=h1.src (w0:=w) (M:=[]) (H:=[]) oU oR
 clear hs
 rcases h1.cases with ⟨a,h2⟩|⟨h2,h3⟩
 ·subst h2
  refine enter (C:=Tryz.cx) (F:=mJ8) (args:=[_]) Tryz.func56 rfl rfl rfl mY0 (St.start w []) ?_
  repeat' (conv=>whnf);first|(refine VAp.is ?_;refine VAp.own aT (h1.src (by simp) (fun _=>rfl)) (bZ5 (by simp [bQ6,Value.oneCell'])) ((by (try dsimp only);omega)) (by simp only [maxLen];omega) fun p' cap' hp'=>?_)|refine VSeq.go ?_|refine oV fun _=>?_
  all_goals (conv=>whnf)
  refine ⟨fun w' hw'=>⟨(p',cap'),by simp [cV1],fun h=>hp' qZ,?_⟩⟩
  rw [Qo] at hw'
  exact hw'.le aH
 ·subst h2
  have hl:l=[]:=qF h3
  subst hl
  refine enter (C:=Tryz.cx) (F:=mJ8) (args:=[_]) Tryz.func56 rfl rfl rfl mY0 (St.start w []) ?_
  repeat' (conv=>whnf);first|refine VSeq.go ?_|refine oN fun _=>?_|refine oL ?_
  all_goals (conv=>whnf)
  exact ⟨fun w' hw'=>⟨(none,0),rfl,fun h=>absurd h oU,hw'.le (.nilv .nil)⟩⟩
end Go.Proofs
end
section
set_option linter.unusedVariables false
set_option linter.unusedSimpArgs false
set_option maxHeartbeats 4000000
set_option linter.unnecessarySimpa false
namespace Go.Proofs
open Go Go.Vx Go.Gm
structure WRow where
 key:Int
 p:Option Addr
 cap:Nat
 l:List Syn
def fC1 (r:WRow):Value:=.slice r.p r.l.length r.cap
def cF3 (r:WRow):Ent:=.vec r.p r.l.length r.cap 154 4 (bQ1 bP1 r.l)
def bB7 (r:WRow):Int×Value:=(r.key,fC1 r)
def bR6 (r:WRow):Int×List Syn:=(r.key,r.l)
theorem gP3 (R:List WRow)(s:Syn):
  (∃(j:Nat) (r:WRow),R[j]? =some r/\bZ4 (R.map bB7) s.frm=some (fC1 r)/\
   ∀r':WRow,r'.key=r.key->r'.l=r.l++[s]->cB4 (R.map bB7) s.frm (fC1 r')=(R.set j r').map bB7/\bH2 (R.map bR6) s=(R.set j r').map bR6)\/
  (bZ4 (R.map bB7) s.frm=none/\
   ∀r':WRow,r'.key=s.frm->r'.l=[s]->cB4 (R.map bB7) s.frm (fC1 r')=(R++[r']).map bB7/\bH2 (R.map bR6) s=(R++[r']).map bR6):=by
 induction R with
 |nil=>right;refine ⟨rfl,fun r' h1 h2=>?_⟩;simp [cB4,bH2,bB7,bR6,h1,h2]
 |cons z R ih=>
  by_cases h:z.key=s.frm
  ·left
   refine ⟨0,z,rfl,by simp [bZ4,bB7,h],fun r' h1 h2=>?_⟩
   simp [cB4,bH2,bB7,bR6,h,h1,h2]
  ·rcases ih with ⟨j,r,g1,g2,g3⟩|⟨g2,g3⟩
   ·left
    refine ⟨j+1,r,by simpa using g1,by simpa [bZ4,bB7,h] using g2,fun r' h1 h2=>?_⟩
    obtain ⟨k1,k2⟩:=g3 r' h1 h2
    constructor
    ·simp only [qI,cB4,bB7,h,if_false,List.set_cons_succ] at k1 ⊢
     rw [k1]
    ·simp only [qI,bH2,bR6,h,if_false,List.set_cons_succ] at k2 ⊢
     rw [k2]
   ·right
    refine ⟨by simpa [bZ4,bB7,h] using g2,fun r' h1 h2=>?_⟩
    obtain ⟨k1,k2⟩:=g3 r' h1 h2
    constructor
    ·simp only [qI,cB4,bB7,h,if_false,Qw] at k1 ⊢
     rw [k1]
    ·simp only [qI,bH2,bR6,h,if_false,Qw] at k2 ⊢
     rw [k2]
theorem kQ4 {α:Type}{l:List α}{j:Nat}{x:α}(y:α)(h:l[j]? =some x):(l.set j y).Perm (y::l.eraseIdx j):=by
 induction l generalizing j with
 |nil=>simp at h
 |cons z l ih=>
  cases j with
  |zero=>simp
  |succ j=>
   simp only [Qv] at h
   simp only [List.set_cons_succ,List.eraseIdx_cons_succ]
   exact ((ih h).cons z).trans (.swap _ _ _)
theorem kM4 {R:List WRow}{j:Nat}{r:WRow}(s:Syn)(p':Option Addr)(cap':Nat)(hj:R[j]? =some r){H:HP}(h:HLe (.vec p' (r.l.length+1) cap' 154 4 (bQ1 bP1 r.l++bP1 s)::(R.eraseIdx j).map cF3) H):
  HLe ((R.set j ⟨r.key,p',cap',r.l++[s]⟩).map cF3) H:=by
 refine h.permL ?_
 have:=(kQ4 (⟨r.key,p',cap',r.l++[s]⟩:WRow) hj).map cF3
 simpa [cF3,bQ1] using this
theorem kM8 {R:List WRow}(k:Int)(s:Syn)(p':Option Addr)(cap':Nat){H:HP}(h:HLe (.vec p' 1 cap' 154 4 (bP1 s)::R.map cF3) H):
  HLe ((R++[(⟨k,p',cap',[s]⟩:WRow)]).map cF3) H:=by
 refine h.permL ?_
 simp only [ql,qC,qI,QA]
 simp [cF3,bQ1]
structure WOk (R:List WRow):Prop where
 pos:∀r∈R,0<r.l.length
 ptr:∀r∈R,∃g,r.p=some ⟨g,0,none⟩
theorem gL4 (N:Net)(hs1:N.syns.length<=8192)(nv:Value)(qs:Option Addr)(cs bs os:Nat)(w:World)(h2:Sl w bP1 4 N.syns qs N.syns.length bs os):
  Calls Tryz.prog 137 #[.agg #[nv,.int .i64 N.inputs,.slice qs N.syns.length cs]] w fun e w'=>∃x:Nat×List WRow,e=.returned (.map (some x.1))/\(WOk x.2/\x.2.map bR6=cJ7 N.syns)/\St w [] (.map x.1 (x.2.map bB7)::x.2.map cF3) w':=by
 refine enter (C:=Tryz.cx) (F:=lB8) (args:=[_]) Tryz.func137 rfl rfl rfl mQ9 (St.start w []) ?_
 refine VSeq.go ?_
 repeat' (conv=>whnf);first|(refine VNew.mk fun b1=>?_)
 all_goals (conv=>whnf)
 repeat' (conv=>whnf);first|(refine VNew.mk fun bw=>?_)|refine VSeq.go ?_|refine oL ?_
 all_goals (conv=>whnf)
 refine VLoop.mk (α:=Nat×List WRow) (fun x=>x.1<=N.syns.length/\WOk x.2/\x.2.map bR6=cJ7 (N.syns.take x.1)/\∀r∈x.2,r.l.length<=x.1)
  (fun x=>[(1000000,.tuple #[]),(1,.pointer (some ⟨b1,0,none⟩)),(3,.map (some bw)),(8,.slice qs N.syns.length cs),(9,.int .i64 (N.syns.length:Int)),(10,.int .i64 (x.1:Int))])
  (fun x=>.row b1 25 [nv,.int .i64 N.inputs,.slice qs N.syns.length cs]::.map bw (x.2.map bB7)::x.2.map cF3) (fun x=>N.syns.length - x.1) (0,[]) ⟨by omega,⟨by simp,by simp⟩,rfl,by simp⟩ aE aH ?_
 rintro ⟨i,R⟩ ⟨hi,hok,hR,hlen⟩
 dsimp only at*
 rcases qy i N.syns.length with hlt|hge
 ·obtain ⟨s,hs⟩:=h2.get hlt
  have hone:∀v∈bP1 s,v.oneCell'=true:=by simp [bP1,Value.oneCell']
  rcases gP3 R s with ⟨j,r,hj,hm,hset⟩|⟨hm,hset⟩
  ·have hrl:=hlen r (qz hj)
   repeat' (conv=>whnf);first|(refine VNew.mk fun b5=>?_)|(refine VIx.is ?_;refine VIx.mk (h2.ptr qZ) qZ qZ ?_)|(refine VLd.is ?_;refine VLd.mk (h2.rd0 (by simp) (fun _=>rfl) hs rfl) ?_)|(refine VHs.is ?_;refine VHs.mk [.row b5 154 (bP1 s),.map bw (R.map bB7)] aH ?_)|(refine VMp.is ?_;refine VMp.mk aT ?_)|(refine VLk.is ?_;refine VLk.has hm ?_)|(refine VAp.is ?_;refine VAp.seg (f:=cF3) (l:=R) aS hj rfl (.at_ (.vec aT rfl)) hone (by (try dsimp only);omega) (by simp only [maxLen];omega) fun p' cap' hp'=>?_)|(refine VMpU.is ?_;refine VMpU.mk aT ?_)|refine VSeq.go ?_|refine oY fun _=>?_|refine oL ?_|refine oT ?_|refine oA ?_|refine oK ?_
   all_goals (conv=>whnf)
   have hz:=hset ⟨r.key,p',cap',r.l++[s]⟩ rfl rfl
   have hv:fC1 ⟨r.key,p',cap',r.l++[s]⟩=.slice p' (r.l.length+1) cap':=by simp [fC1]
   rw [hv] at hz
   refine VNext.mk (i+1,R.set j ⟨r.key,p',cap',r.l++[s]⟩) ⟨by omega,⟨fun q hq=>?_,fun q hq=>?_⟩,by rw [<-hz.2,hR,fV8 hs],fun q hq=>?_⟩ (by (try dsimp only);omega) aE ?_
   ·rcases Qq hq with h|rfl
    ·exact hok.pos q h
    ·simp
   ·rcases Qq hq with h|rfl
    ·exact hok.ptr q h
    ·exact hp' qZ
   ·rcases Qq hq with h|rfl
    ·have:=hlen q h;omega
    ·simp;omega
   ·dsimp only
    rw [<-hz.1]
    refine HLe.cons aT (HLe.cons aT (kM4 s p' cap' hj ?_))
    exact aH
  ·repeat' (conv=>whnf);first|(refine VNew.mk fun b5=>?_)|(refine VIx.is ?_;refine VIx.mk (h2.ptr qZ) qZ qZ ?_)|(refine VLd.is ?_;refine VLd.mk (h2.rd0 (by simp) (fun _=>rfl) hs rfl) ?_)|(refine VHs.is ?_;refine VHs.mk [.row b5 154 (bP1 s),.map bw (R.map bB7)] aH ?_)|(refine VMp.is ?_;refine VMp.mk aT ?_)|(refine VLk.is ?_;refine VLk.lacks hm ?_)|(refine VAp.is ?_;refine VAp.nil rfl rfl rfl (.at_ (.vec aT rfl)) hone (by (try dsimp only);omega) (by simp only [maxLen];omega) fun p' cap' hp'=>?_)|(refine VMpU.is ?_;refine VMpU.mk aT ?_)|refine VSeq.go ?_|refine oY fun _=>?_|refine oL ?_|refine oT ?_|refine oA ?_|refine oK ?_
   all_goals (conv=>whnf)
   have hz:=hset ⟨s.frm,p',cap',[s]⟩ rfl rfl
   refine VNext.mk (i+1,R++[⟨s.frm,p',cap',[s]⟩]) ⟨by omega,⟨fun q hq=>?_,fun q hq=>?_⟩,by rw [<-hz.2,hR,fV8 hs],fun q hq=>?_⟩ (by (try dsimp only);omega) aE ?_
   ·rcases qH.1 hq with h|h
    ·exact hok.pos q h
    ·simp only [qt] at h;subst h;simp
   ·rcases qH.1 hq with h|h
    ·exact hok.ptr q h
    ·simp only [qt] at h;subst h;exact hp' qZ
   ·rcases qH.1 hq with h|h
    ·have:=hlen q h;omega
    ·simp only [qt] at h;subst h;simp
   ·dsimp only
    rw [<-hz.1]
    refine HLe.cons aT (HLe.cons aT (kM8 s.frm s p' cap' ?_))
    exact aH
 ·repeat' (conv=>whnf);first|refine VSeq.go ?_|refine oN fun _=>?_
  all_goals (conv=>whnf)
  refine ⟨fun w' hw'=>⟨(bw,R),rfl,⟨hok,?_⟩,hw'.le aH⟩⟩
  rw [hR,qe hge]
end Go.Proofs
end
section
set_option linter.unnecessarySimpa false
namespace Go.Proofs
open Go Go.Vx Go.Gm
structure DRow where
 g:Nat
 cap:Nat
 l:List Int
def bJ9 (d:DRow):Value:=.slice (some ⟨d.g,0,none⟩) d.l.length d.cap
def bY9 (d:DRow):Ent:=.vec (some ⟨d.g,0,none⟩) d.l.length d.cap 3 1 (bQ1 bQ6 d.l)
structure SimM where
 b:Nat
 N:Net
 pb:Nat
 pc:Nat
 sv:Value
 bw:Nat
 R:List WRow
 tick:Nat
 sb:Nat
 sc:Nat
 sts:List Sta
 D:List DRow
def dJ0 (x:SimM):List Value:=
 .slice (some ⟨x.pb,0,none⟩) x.N.ps.length x.pc::.int .i64 x.N.inputs::x.sv::.map (some x.bw)::.int .i64 (x.tick:Int)::.slice (some ⟨x.sb,0,none⟩) x.sts.length x.sc::x.D.map bJ9
def bM7 (x:SimM):HP:=
 .row x.b 206 (dJ0 x)::.vec (some ⟨x.sb,0,none⟩) x.sts.length x.sc 126 2 (bQ1 cJ6 x.sts)::x.D.map bY9
def dW4 (x:SimM):HP:=
 .map x.bw (x.R.map bB7)::.vec (some ⟨x.pb,0,none⟩) x.N.ps.length x.pc 140 8 (bQ1 bH3 x.N.ps)::x.R.map cF3
def kB8 (x:SimM):HP:=bM7 x++dW4 x
theorem _root_.Go.Vx.Cells.row {w0 w:World}{M:List Nat}{H r:HP}{b e:Nat}{cs:List Value}{u:Ent->HP}(hs:St w0 M H w)(hat:At H (.row b e cs) u r):Cells w b 0 cs:=by
 have h:w.heap[b]? =some (.cells cs.toArray e (0,0)):=hs.own _ hat.mem
 intro j v hj
 simpa [World.cell?,h] using hj
def dJ4:Value:=.slice none 0 0
def six (x:SimM):List Value:=
 [.slice (some ⟨x.pb,0,none⟩) x.N.ps.length x.pc,.int .i64 x.N.inputs,x.sv,.map (some x.bw),.int .i64 (x.tick:Int),.slice (some ⟨x.sb,0,none⟩) x.sts.length x.sc]
theorem kN7 (x:SimM):dJ0 x=six x++x.D.map bJ9:=rfl
theorem kN0 (x:SimM)(D:List DRow)(v:Value)(h:D.length<16):
  upd (six x++(D.map bJ9++List.replicate (16 - D.length) dJ4)) (6+D.length) [v]=some (six x++((D.map bJ9++[v])++List.replicate (16 - (D.length+1)) dJ4)):=by
 obtain ⟨n,hn⟩:∃n,16 - D.length=n+1:=⟨16 - D.length - 1,by omega⟩
 have hn':16 - (D.length+1)=n:=by omega
 rw [hn,hn',cL0 _ _ _ (by simp [six];omega)]
 have h6:(six x).length=6:=rfl
 have e1:(six x++(D.map bJ9++List.replicate (n+1) dJ4)).take (6+D.length)=six x++D.map bJ9:=by
  rw [List.take_append,qe qZ,h6,QL,List.take_append_of_le_length oU,qe oU]
 have e2:(six x++(D.map bJ9++List.replicate (n+1) dJ4)).drop (6+D.length+[v].length)=List.replicate n dJ4:=by
  rw [List.drop_append,Qi (by simp;omega),Qc,h6,List.drop_append,Qi (by simp;omega),Qc]
  simp only [qv,qR,List.length_nil,List.drop_replicate]
  congr 1
  omega
 rw [e1,e2]
 simp
structure SimOk (x:SimM):Prop where
 net:NetOk x.N
 rows:WOk x.R
 wired:x.R.map bR6=cJ7 x.N.syns
 sts:x.sts.length=x.N.ps.length
 due:x.D.length=16
 cells:∀d∈x.D,d.l.length=x.N.ps.length
 sv:x.sv.oneCell'=true
theorem dW0 (N:Net)(hN:NetOk N)(pn:Option Addr)(cn bn on:Nat)(qs:Option Addr)(cs bs os:Nat)(w:World)(h1:Sl w bH3 8 N.ps pn N.ps.length bn on)(h2:Sl w bP1 4 N.syns qs N.syns.length bs os):
  Calls Tryz.prog 86 #[.agg #[.slice pn N.ps.length cn,.int .i64 N.inputs,.slice qs N.syns.length cs]] w fun e w'=>∃x:SimM,e=.returned (.pointer (some ⟨x.b,0,none⟩))/\
   (SimOk x/\x.N=N/\x.tick=0/\x.sts=List.replicate N.ps.length ⟨0,0⟩/\x.D.map (·.l)=List.replicate 16 (List.replicate N.ps.length 0))/\St w [] (kB8 x) w':=by
 have hpos:=hN.some
 have hfew:=hN.few
 have hfs:=hN.fewS
 refine enter (C:=Tryz.cx) (F:=mG4) (args:=[_]) Tryz.func86 rfl rfl rfl ok86 (St.start w []) ?_
 refine VSeq.go ?_
 repeat' (conv=>whnf);first|(refine VNew.mk fun b1=>?_)
 all_goals (conv=>whnf)
 repeat' (conv=>whnf);first|(refine VCall.is ?_;refine bQ2 (fun w' hw'=>cW8 N.ps _ _ _ _ _ (h1.keep hw' (by simp)) qZ) ?_;rintro ⟨p1,c1⟩ hp1;obtain ⟨g1,hg1⟩:=hp1 qZ;dsimp only at hg1;subst hg1)|(refine VCall.is ?_;refine bQ2 (fun w' hw'=>gL4 N qZ _ _ _ _ _ _ (h2.keep hw' (by simp))) ?_;rintro ⟨bw,R⟩ ⟨hw1,hw2⟩;dsimp only at hw1 hw2)|(refine VMk.is ?_;refine VMk.mk qZ qZ (by (try dsimp only);omega) qZ fun b2=>?_)|(refine VSeq.is ?_;refine VSeq.cut (at_:=3) (α:=SimM) (fun y=>WOk y.R/\y.R.map bR6=cJ7 N.syns/\y.N=N/\y.tick=0/\y.sts=List.replicate N.ps.length ⟨0,0⟩/\y.D=[]/\y.sv.oneCell'=true) (fun y=>[(1000000,.tuple #[]),(1,.pointer (some ⟨b1,0,none⟩)),(3,.pointer (some ⟨y.b,0,none⟩))]) (fun y=>.row b1 25 [.slice (some ⟨y.pb,0,none⟩) N.ps.length y.pc,.int .i64 N.inputs,y.sv]::.row y.b 206 [.slice (some ⟨y.pb,0,none⟩) N.ps.length y.pc,.int .i64 N.inputs,y.sv,.map (some y.bw),.int .i64 0,.slice (some ⟨y.sb,0,none⟩) N.ps.length N.ps.length,dJ4,dJ4,dJ4,dJ4,dJ4,dJ4,dJ4,dJ4,dJ4,dJ4,dJ4,dJ4,dJ4,dJ4,dJ4,dJ4]::.vec (some ⟨y.sb,0,none⟩) N.ps.length N.ps.length 126 2 (bB1 [.int .i64 0,.int .i64 0] N.ps.length)::.map y.bw (y.R.map bB7)::.vec (some ⟨y.pb,0,none⟩) N.ps.length y.pc 140 8 (bQ1 bH3 N.ps)::y.R.map cF3) ?_ ?_)|refine VSeq.go ?_|refine oL ?_|refine oT ?_|refine oV fun _=>?_|refine oK ?_|refine oH ?_|refine And.intro ?_ ?_
 all_goals (conv=>whnf)
 all_goals first
  |(refine VMid.mk ⟨_,N,_,_,_,_,_,0,_,N.ps.length,List.replicate N.ps.length ⟨0,0⟩,[]⟩ ⟨hw1,hw2,rfl,rfl,rfl,rfl,?_⟩ aE aH;rfl)
  |skip
 rintro y ⟨hy1,hy2,hy3,hy4,hy5,hy6,hy7⟩
 obtain ⟨yb,yN,ypb,ypc,ysv,ybw,yR,ytick,ysb,ysc,ysts,yD⟩:=y
 dsimp only at*
 subst hy3;subst hy4;subst hy5;subst hy6
 repeat' (conv=>whnf);first|refine VSeq.go ?_|refine oN fun _=>?_|refine oL ?_
 all_goals (conv=>whnf)
 refine VLoop.mk (α:=List DRow) (fun D=>D.length<=16/\D.map (·.l)=List.replicate D.length (List.replicate yN.ps.length 0))
  (fun D=>[(1000000,.tuple #[]),(1,.pointer (some ⟨b1,0,none⟩)),(3,.pointer (some ⟨yb,0,none⟩)),(18,.int .i64 (D.length:Int))])
  (fun D=>.row b1 25 [.slice (some ⟨ypb,0,none⟩) yN.ps.length ypc,.int .i64 yN.inputs,ysv]::.row yb 206 (six ⟨yb,yN,ypb,ypc,ysv,ybw,yR,0,ysb,yN.ps.length,List.replicate yN.ps.length ⟨0,0⟩,[]⟩++(D.map bJ9++List.replicate (16 - D.length) dJ4))::
   .vec (some ⟨ysb,0,none⟩) yN.ps.length yN.ps.length 126 2 (bB1 [.int .i64 0,.int .i64 0] yN.ps.length)::.map ybw (yR.map bB7)::.vec (some ⟨ypb,0,none⟩) yN.ps.length ypc 140 8 (bQ1 bH3 yN.ps)::(D.map bY9++yR.map cF3))
  (fun D=>16 - D.length) [] ⟨by simp,rfl⟩ aE ?_ ?_
 ·have e:six ⟨yb,yN,ypb,ypc,ysv,ybw,yR,0,ysb,yN.ps.length,List.replicate yN.ps.length ⟨0,0⟩,[]⟩=[.slice (some ⟨ypb,0,none⟩) yN.ps.length ypc,.int .i64 yN.inputs,ysv,.map (some ybw),.int .i64 0,.slice (some ⟨ysb,0,none⟩) yN.ps.length yN.ps.length]:=by simp [six]
  rw [e]
  exact aH
 rintro D ⟨hD,hz⟩
 rcases qy D.length 16 with hlt|hge
 ·have hup:=fun v=>kN0 ⟨yb,yN,ypb,ypc,ysv,ybw,yR,0,ysb,yN.ps.length,List.replicate yN.ps.length ⟨0,0⟩,[]⟩ D v hlt
  repeat' (conv=>whnf);first|(refine VMk.is ?_;refine VMk.mk qZ qZ (by (try dsimp only);omega) qZ fun b2=>?_)|(refine VSt.is ?_;refine VSt.cast (off':=6+D.length) (by first|omega|(dsimp only;omega)) (VSt.row aT (hup _) rfl ?_))|refine VSeq.go ?_|refine oY fun _=>?_|refine oL ?_|refine oA ?_|refine oI ?_|refine oH ?_
  all_goals (conv=>whnf)
  refine VNext.mk (D++[⟨b2,yN.ps.length,List.replicate yN.ps.length 0⟩]) ⟨by simp;omega,by simp [hz,List.replicate_succ']⟩ (by simp;omega) ?_ ?_
  ·simp only [qw,qR,List.length_nil]
   exact aE
  ·have e1:(D++[(⟨b2,yN.ps.length,List.replicate yN.ps.length 0⟩:DRow)]).map bJ9=D.map bJ9++[.slice (some ⟨b2,0,none⟩) yN.ps.length yN.ps.length]:=by simp [bJ9]
   have e2:(D++[(⟨b2,yN.ps.length,List.replicate yN.ps.length 0⟩:DRow)]).map bY9=D.map bY9++[.vec (some ⟨b2,0,none⟩) yN.ps.length yN.ps.length 3 1 (bB1 [.int .i64 0] yN.ps.length)]:=by
    have:=bV3 (f:=bQ6) (x:=0) yN.ps.length
    simp only [ql,qI,QA,bY9,Qn]
    rw [<-this];rfl
   dsimp only
   rw [e1,e2,qw,qR,List.length_nil,qJ (D.map bY9)]
   refine HLe.cons aT (HLe.cons aT (HLe.cons aT (HLe.cons aT (HLe.cons aT ?_))))
   refine HLe.permL (A:=.vec (some ⟨b2,0,none⟩) yN.ps.length yN.ps.length 3 1 (bB1 [.int .i64 0] yN.ps.length)::(D.map bY9++yR.map cF3)) ?_ (by simpa using List.perm_middle)
   exact aH
 ·repeat' (conv=>whnf);first|refine VSeq.go ?_|refine oN fun _=>?_
  all_goals (conv=>whnf)
  refine ⟨fun w' hw'=>⟨⟨yb,yN,ypb,ypc,ysv,ybw,yR,0,ysb,yN.ps.length,List.replicate yN.ps.length ⟨0,0⟩,D⟩,rfl,⟨⟨hN,hy1,hy2,by simp,(show D.length=16 by omega),fun d hd=>?_,hy7⟩,rfl,rfl,rfl,?_⟩,?_⟩⟩
  ·have:d.l∈D.map (·.l):=qN hd
   rw [hz] at this
   rw [(List.mem_replicate.1 this).2]
   simp
  ·rw [hz,show D.length=16 by omega]
  ·have h16:16 - D.length=0:=by omega
   rw [h16] at hw'
   have e:=bV3 (f:=cJ6) (x:=⟨0,0⟩) yN.ps.length
   refine hw'.le ?_
   unfold kB8 bM7 dW4 dJ0
   dsimp only
   rw [Qn,<-e]
   refine HLe.cons (x:=.row yb 206 _) (u:=_) (r:=_) (by
    have e2:∀(X:List Value),X++([]:List Value)=X:=qC
    simp only [six,Qn,List.replicate_zero,qC,Qw,Qc]
    exact aT) ?_
   exact aH
end Go.Proofs
end
