import Derived.Test.YtlbekjokdlkghaaGreatChipMovesNa
import Derived.Test.YtlbekjokdlkghaaGreatChipMovesKt
import Derived.Test.YtlbekjokdlkghaaGreatChipMovesPp
set_option linter.unusedVariables false
set_option linter.unusedSimpArgs false
set_option maxHeartbeats 4000000
section
namespace Go.Vx
theorem VQ.gen {a b:Int}{k:Int->Prop}(ha:0<=a)(hb:0<b)(h2:a<=9223372036854775807)(hk:∀q,a / b=q->0<=q->q<=a->k q):VQ .i64 a b k:=
 .pos ha hb h2 (hk _ rfl (Int.ediv_nonneg ha (Int.le_of_lt hb)) (Int.ediv_le_self b ha))
theorem VM.gen {a b:Int}{k:Int->Prop}(ha:0<=a)(hb:0<b)(hk:∀q,a%b=q->0<=q->q<b->k q):VM a b k:=
 .pos ha hb (hk _ rfl (Int.emod_nonneg _ qZ) (Int.emod_lt_of_pos _ hb))
theorem VAr.mul {a b z:Int}{k:Int->Prop}(h:a*b=z)(h1: -9223372036854775808<=z)(h2:z<=9223372036854775807)(hk:k z):VAr .i64 (a*b) k:=h▸ .i64 h1 h2 hk
theorem VShL.one {b:Int}{k:Int->Prop}(h0:0<=b)(h1:b<=62)(hk:k (2 ^ b.toNat)):VShL .i64 1 b k:=by
 refine .mk h0 ?_
 have e:min b.toNat (IntKind.i64.bits)=b.toNat:=by
  have:IntKind.i64.bits=64:=rfl
  rw [this];omega
 rw [e,Int.one_mul,wrap_i64]
 ·exact hk
 ·have:(0:Int)<2 ^ b.toNat:=Int.pow_pos qZ
  omega
 ·have e2:((2:Int) ^ b.toNat)=((2 ^ b.toNat:Nat):Int):=by simp
  have h3:2 ^ b.toNat<=2 ^ 62:=Nat.pow_le_pow_right qZ qZ
  rw [e2]
  omega
theorem VShL.is {kd:IntKind}{a b:Int}{k:Int->Prop}(hh:VShL kd a b k):VShL kd a b k:=hh
theorem bF1 {at_:Nat}{H:HP}{A:(Env->HP->Prop)->Prop}{B:Env->HP->Prop}(n:Nat)(h:at_=n)(hh:VSeq at_ H A B):VSeq at_ H A B:=hh
theorem VBit.is {op:BinOp}{kd:IntKind}{a b:Int}{k:Int->Prop}(hh:VBit op kd a b k):VBit op kd a b k:=hh
end Go.Vx
namespace Go.Proofs
open Go Go.Vx Go.Gm
theorem kJ2 (w s:Int):bG4 w s=if w<0 then 0 - ((2*max w (0 - w)+s - 1) / (2*s)) else (2*max w (0 - w)+s - 1) / (2*s):=by
 unfold bG4
 by_cases h:w<0
 ·rw [jw h,jw h,show max w (0 - w)= -w by omega,Int.zero_sub]
 ·rw [jk h,jk h,show max w (0 - w)=w by omega]
theorem dF1 (x s:Int)(hx: -1099511627776<=x/\x<=1099511627776)(hs:1<=s/\s<=1099511627776)(w:World):Calls Tryz.prog 83 #[.int .i64 x,.int .i64 s] w fun e w'=>e=.returned (.int .i64 (bG4 x s))/\St w [] [] w':=by
 rw [kJ2]
 refine enter (C:=Tryz.cx) (F:=mG6) (args:=[_,_]) Tryz.func83 rfl rfl rfl ok83 (St.start w []) ?_
 obtain ⟨m,hm⟩:=gX (max x (0 - x))
 have hm0:0<=m/\m<=1099511627776:=by omega
 repeat' (conv=>whnf);first|(refine bQ0 84 ?_;refine VCall.inl (F:=mJ5) Tryz.func84 rfl rfl rfl mW7 ?_)|(refine VQ.is ?_;rw [hm];refine VQ.gen qZ qZ qZ fun q hq hq0 hq1=>?_)|refine VSeq.go ?_|refine oS (fun _=>?_) fun _=>?_|refine oA ?_
 all_goals (conv=>whnf)
 ·exact ⟨fun w' hw'=>⟨by rw [jw ‹_›,hq];rfl,hw'.le .nil⟩⟩
 ·exact ⟨fun w' hw'=>⟨by rw [jk ‹_›,hq];rfl,hw'.le .nil⟩⟩
theorem fH0 {a b A B:Int}(ha: -A<=a/\a<=A)(hb:0<=b/\b<=B)(hA:0<=A): -(A*B)<=a*b/\a*b<=A*B:=fF9 ha.1 ha.2 hb.1 hb.2 hA
theorem gF7 (lo hi s half:Int)(hlo: -32768<=lo/\lo<=0)(hhi:0<=hi/\hi<=32768)(hs:1<=s/\s<=65537)(hh:2<=half/\half<=32768)(w:World):Calls Tryz.prog 82 #[.int .i64 lo,.int .i64 hi,.int .i64 s,.int .i64 half] w fun e w'=>∃b:Bool,e=.returned (.bool b)/\(b=true<->gX4 lo hi s half)/\St w [] [] w':=by
 have n1:=(cY9 (w:=lo) hs.1).2 hlo.2
 have n2:=(cY9 (w:=hi) hs.1).1 hhi.1
 refine enter (C:=Tryz.cx) (F:=mG7) (args:=[_,_,_,_]) Tryz.func82 rfl rfl rfl ok82 (St.start w []) ?_
 unfold gX4
 obtain ⟨a,ha⟩:=gX (bG4 lo s)
 obtain ⟨b,hb⟩:=gX (bG4 hi s)
 rw [ha] at n1 ⊢
 rw [hb] at n2 ⊢
 have m1:=fH0 (a:=a) (b:=s) (A:=32768) (B:=65537) qZ qZ qZ
 have m2:=fH0 (a:=b) (b:=s) (A:=32768) (B:=65537) qZ qZ qZ
 obtain ⟨c,hc⟩:=gX (a*s)
 obtain ⟨d,hd⟩:=gX (b*s)
 rw [hc] at m1 ⊢
 rw [hd] at m2 ⊢
 repeat' (conv=>whnf);first|(refine VAr.is ?_;refine VAr.mul hc qZ qZ ?_)|(refine VAr.is ?_;refine VAr.mul hd qZ qZ ?_)|(refine bQ0 83 ?_;(refine bQ4 (fun w' _=>dF1 _ s qZ qZ w') ?_;first|rw [ha]|rw [hb]))|refine VSeq.go ?_|refine oS (fun _=>?_) fun _=>?_|refine oA ?_
 all_goals (conv=>whnf)
 all_goals exact ⟨fun w' hw'=>⟨_,rfl,by first|(constructor<;>intro h<;>first|omega|(cases h;done))|(simp;omega),hw'.le .nil⟩⟩
end Go.Proofs
end

section
namespace Go.Gm
def Spc.wf (s:Spc):Prop:=I64 s.wide/\I64 s.high/\I64 s.room
def bS3 (W H r o:Int):Prop:=if o=1 then r%W+1<W else if o=2 then r / W+1<H else if o=4 then 0<r%W else if o=8 then 0<r / W else True
instance (W H r o:Int):Decidable (bS3 W H r o):=by unfold bS3;infer_instance
def bR0 (s:Spc)(l:List Int):Int:=if cX3 s≠0 then 3 else if∀r∈l,0<=r/\r<s.wide*s.high then 0 else 4
theorem bC6 {s:Spc}{l:List Int}:bR0 s l=0<->SpcOk s/\∀r∈l,0<=r/\r<s.wide*s.high:=by
 unfold bR0
 rw [<-bN4]
 constructor
 ·intro h
  split at h
  ·cases h
  ·split at h
   ·exact ⟨by omega,by assumption⟩
   ·cases h
 ·rintro ⟨h1,h2⟩
  rw [jk qZ,jw h2]
theorem hF8 {W H r t:Int}(hW:0<W)(hr:0<=r/\r<W*H)(ht:0<=t/\t<W*H):bS3 W H r (bY2 W r t):=by
 obtain ⟨x,y,h1⟩:=at2 hW r
 obtain ⟨a,b,h2⟩:=at2 hW t
 rw [bG7 h1] at hr
 rw [bG7 h2] at ht
 have:=h1.x0;have:=h1.x1;have:=h2.x0;have:=h2.x1
 rw [cT2 h1 h2]
 unfold bS3
 rw [h1.col,h1.row]
 by_cases c1:x<a
 ·rw [jw c1,jw rfl];omega
 rw [jk c1]
 by_cases c2:a<x
 ·rw [jw c2,jk qZ,jk qZ,jw rfl];omega
 rw [jk c2]
 by_cases c3:y<b
 ·rw [jw c3,jk qZ,jw rfl];omega
 rw [jk c3]
 by_cases c4:b<y
 ·rw [jw c4,jk qZ,jk qZ,jk qZ,jw rfl];omega
 rw [jk c4,jk qZ,jk qZ,jk qZ,jk qZ]
 trivial
end Go.Gm
namespace Go.Proofs
open Go Go.Vx Go.Gm
theorem _root_.Go.Vx.cF1 (y:Value){P:Program}{w0:World}{M:List Nat}{H:HP}{f:Nat}{x:Value}{zs:List Value}{K:Value->HP->Prop}(hh:VCall P w0 M H f (x::y::zs) K):VCall P w0 M H f (x::y::zs) K:=hh
def cK4 (s:Spc):List Value:=[.int .i64 s.wide,.int .i64 s.high,.int .i64 s.room]
theorem bN3 (s:Spc)(hs:s.wf)(w:World):Calls Tryz.prog 115 #[.agg (cK4 s).toArray] w fun e w'=>e=.returned (.int .i64 (cX3 s))/\St w [] [] w':=by
 obtain ⟨h1,h2,h3⟩:=hs
 unfold I64 at h1 h2 h3
 unfold cK4
 refine enter (C:=Tryz.cx) (F:=lD3) (args:=[_]) Tryz.func115 rfl rfl rfl mZ4 (St.start w []) ?_
 repeat' (conv=>whnf);first|refine VSeq.go ?_|refine oS (fun _=>?_) fun _=>?_|refine oL ?_|refine oV fun _=>?_
 all_goals (conv=>whnf)
 all_goals first
  |exact ⟨fun w' hw'=>⟨by unfold cX3;rw [jw qZ];rfl,hw'.le .nil⟩⟩
  |exact ⟨fun w' hw'=>⟨by unfold cX3;rw [jk qZ];rfl,hw'.le .nil⟩⟩
theorem bL2 (s:Spc)(hs:1<=s.wide/\s.wide<=1000)(r:Int)(hr:0<=r/\r<=1000000)(w:World):Calls Tryz.prog 129 #[.agg (cK4 s).toArray,.int .i64 r] w fun e w'=>e=.returned (.agg #[.int .i64 (r%s.wide),.int .i64 (r / s.wide)])/\St w [] [] w':=by
 unfold cK4
 refine enter (C:=Tryz.cx) (F:=lP4) (args:=[_,_]) Tryz.func129 rfl rfl rfl mX5 (St.start w []) ?_
 repeat' (conv=>whnf);first|(refine VNew.mk fun b4=>?_)|(refine VHs.is ?_;refine VHs.mk [.row _ 27 [.int .i64 s.wide,.int .i64 s.high,.int .i64 s.room]] aH ?_)|refine VSeq.go ?_|refine oL ?_|refine oT ?_|refine oQ ?_|refine oM ?_
 all_goals (conv=>whnf)
 all_goals exact ⟨fun w' hw'=>⟨rfl,hw'.le .nil⟩⟩
theorem dQ1 (s:Spc)(hs:1<=s.wide/\s.wide<=1000)(r t:Int)(hr:0<=r/\r<=1000000)(ht:0<=t/\t<=1000000)(w:World):Calls Tryz.prog 71 #[.agg (cK4 s).toArray,.int .i64 r,.int .i64 t] w fun e w'=>e=.returned (.int .i64 (bY2 s.wide r t))/\St w [] [] w':=by
 refine enter (C:=Tryz.cx) (F:=mF0) (args:=[_,_,_]) Tryz.func71 rfl rfl rfl ok71 (St.start w []) ?_
 have hm1:=bL2 s hs r hr
 have hm2:=bL2 s hs t ht
 obtain ⟨x,y,h1⟩:=at2 (W:=s.wide) qZ r
 obtain ⟨a,b,h2⟩:=at2 (W:=s.wide) qZ t
 rw [cT2 h1 h2]
 rw [h1.col,h1.row] at hm1
 rw [h2.col,h2.row] at hm2
 unfold cK4 at hm1 hm2 ⊢
 repeat' (conv=>whnf);first|(refine bQ0 129 ?_;(refine cF1 (.int .i64 r) ?_;refine bQ4 (fun w' _=>hm1 w') ?_))|(refine bQ0 129 ?_;(refine cF1 (.int .i64 t) ?_;refine bQ4 (fun w' _=>hm2 w') ?_))|(refine VSeq.is ?_;refine bF1 2 rfl ?_;refine VSeq.cut (at_:=2) (α:=Nat×Nat) (fun _=>True) (fun z=>[(1000000,.tuple #[]),(6,.int .i64 0),(7,.pointer (some ⟨z.1,0,none⟩)),(8,.pointer (some ⟨z.2,0,none⟩))]) (fun z=>[.row z.1 259 [.int .i64 x,.int .i64 y],.row z.2 259 [.int .i64 a,.int .i64 b]]) ?_ ?_)|refine VSeq.go ?_|refine oL ?_|refine oT ?_|refine oV fun _=>?_|refine oK ?_|refine oH ?_|refine And.intro ?_ ?_
 all_goals (conv=>whnf)
 any_goals (rename_i u v z;first|exact VMid.mk (v,z) trivial aE aH|exact VMid.mk (z,v) trivial aE aH)
 rintro ⟨b7,b8⟩ _
 dsimp only
 repeat' (conv=>whnf);first|refine VSeq.go ?_|refine oS (fun _=>?_) fun _=>?_|refine oL ?_|refine oV fun _=>?_
 all_goals (conv=>whnf)
 all_goals exact ⟨fun w' hw'=>⟨by (repeat (first|rw [jw qZ]|rw [jk qZ]));rfl,hw'.le .nil⟩⟩
theorem cV4 (s:Spc)(hs:1<=s.wide/\s.wide<=1000)(hh:0<=s.high/\s.high<=1000)(r o:Int)(hr:0<=r/\r<s.wide*s.high)(ho:bC8 o)(w:World):Calls Tryz.prog 128 #[.agg (cK4 s).toArray,.int .i64 r,.int .i64 o] w fun e w'=>∃b:Bool,e=.returned (.tuple #[.int .i64 (bZ8 s.wide r o),.bool b])/\(b=true<->bS3 s.wide s.high r o)/\St w [] [] w':=by
 have hm:=fun (w':World)=>bL2 s hs
 have hwh:s.wide*s.high<=1000*1000:=Int.mul_le_mul hs.2 hh.2 qZ qZ
 obtain ⟨x,y,hxy⟩:=at2 (W:=s.wide) qZ r
 have hyr:=(bG7 hxy).1 hr
 have hx0:=hxy.x0
 have hx1:=hxy.x1
 have hreq:=hxy.eq
 refine enter (C:=Tryz.cx) (F:=lP5) (args:=[_,_,_]) Tryz.func128 rfl rfl rfl mX6 (St.start w []) ?_
 unfold cK4 at hm ⊢
 have hp:∀d:Int,(y+d)*s.wide=s.wide*y+d*s.wide:=fun d=>by rw [Int.add_mul,Int.mul_comm y]
 have hp0:y*s.wide=s.wide*y:=Int.mul_comm _ _
 have hp1:(y+1)*s.wide=s.wide*y+s.wide:=by rw [hp,Int.one_mul]
 have hp2:(y - 1)*s.wide=s.wide*y - s.wide:=by rw [Int.sub_mul,Int.mul_comm y,Int.one_mul]
 have hb0:0<=s.wide*y:=Int.mul_nonneg qZ hyr.1
 obtain ⟨m,hmm⟩:=gX (s.wide*y)
 rw [hmm] at hp0 hp1 hp2 hb0 hreq
 unfold bC8 at ho
 have hm2:∀w':World,Calls Tryz.prog 129 #[.agg #[.int .i64 s.wide,.int .i64 s.high,.int .i64 s.room],.int .i64 r] w' fun e w''=>e=.returned (.agg #[.int .i64 x,.int .i64 y])/\St w' [] [] w'':=fun w'=>by
  have:=hm w' r qZ w'
  rw [hxy.col,hxy.row] at this
  exact this
 have hcase:∃(v:Int) (p:Prop),bZ8 s.wide r o=v/\(bS3 s.wide s.high r o<->p)/\((o=1/\v=m+(x+1)/\p=(x+1<s.wide))\/(o=2/\v=m+s.wide+x/\p=(y+1<s.high))\/(o=4/\v=m+(x - 1)/\p=(0<x))\/(o=8/\v=m - s.wide+x/\p=(0<y))\/(o=16/\v=m+x/\p=True)):=by
  unfold bZ8 bS3
  rw [hxy.col,hxy.row]
  rcases ho with rfl|rfl|rfl|rfl|rfl
  ·exact ⟨_,_,rfl,Iff.rfl,.inl ⟨rfl,by simp;omega,by simp⟩⟩
  ·exact ⟨_,_,rfl,Iff.rfl,.inr (.inl ⟨rfl,by simp;omega,by simp⟩)⟩
  ·exact ⟨_,_,rfl,Iff.rfl,.inr (.inr (.inl ⟨rfl,by simp;omega,by simp⟩))⟩
  ·exact ⟨_,_,rfl,Iff.rfl,.inr (.inr (.inr (.inl ⟨rfl,by simp;omega,by simp⟩)))⟩
  ·exact ⟨_,_,rfl,Iff.rfl,.inr (.inr (.inr (.inr ⟨rfl,by simp;omega,by simp⟩)))⟩
 obtain ⟨v,pr,hv,hpr,hor⟩:=hcase
 rw [hv]
 have hfin:∀(w':World) (H:HP),St w [] H w'->∀b:Bool,(b=true<->pr)->∃b':Bool,Ending.returned (.tuple #[.int .i64 v,.bool b])=.returned (.tuple #[.int .i64 v,.bool b'])/\(b'=true<->bS3 s.wide s.high r o)/\St w [] [] w':=fun w' H hw' b hb=>⟨b,rfl,hb.trans hpr.symm,hw'.le .nil⟩
 clear hv hpr hm ho
 rcases hor with ⟨rfl,rfl,rfl⟩|⟨rfl,rfl,rfl⟩|⟨rfl,rfl,rfl⟩|⟨rfl,rfl,rfl⟩|⟨rfl,rfl,rfl⟩
 all_goals
  repeat' (conv=>whnf);first|(refine VNew.mk fun b4=>?_)|(refine bQ0 129 ?_;(refine bQ4 (fun w' _=>hm2 w') ?_))|(refine VAr.is ?_;refine VAr.mul hp0 qZ qZ ?_)|(refine VAr.is ?_;refine VAr.mul hp1 qZ qZ ?_)|(refine VAr.is ?_;refine VAr.mul hp2 qZ qZ ?_)|refine VSeq.go ?_|refine oY fun _=>?_|refine oN fun _=>?_|refine oS (fun _=>?_) fun _=>?_|refine oL ?_|refine oT ?_|refine oA ?_|refine oH ?_
  all_goals (conv=>whnf)
  all_goals first
   |exact ⟨fun w' hw'=>hfin w' _ hw' true ⟨fun _=>by first|trivial|omega,fun _=>rfl⟩⟩
   |exact ⟨fun w' hw'=>hfin w' _ hw' false ⟨fun h=>(by cases h),fun h=>by omega⟩⟩
   |(exfalso;omega)
   |trace_state
end Go.Proofs
end

section
namespace Go.Gm
structure Prt where
 r:Nat
 o:Nat
 c:Nat
deriving DecidableEq
structure Pkt where
 src:Nat
 key:Int
structure RunZ where
 q:Nat->Nat->List Nat
 co:Nat->Nat->Option Nat
 arr:List (Nat×Nat×Nat)
 drp:List (Nat×Nat×Int×Nat)
def bK1 (o:Nat):Int:=((2 ^ o:Nat):Int)
def cZ6 (o:Nat):Nat:=(o+2)%4
theorem dK3 (o:Nat):cZ6 o<4:=Nat.mod_lt _ qZ
theorem hN6 {a b:Nat}(ha:a<4)(hb:b<4)(h:cZ6 a=cZ6 b):a=b:=by
 unfold cZ6 at h
 omega
def upQ (f:Nat->Nat->List Nat)(r o:Nat)(l:List Nat):Nat->Nat->List Nat:=fun a b=>if a=r/\b=o then l else f a b
def upC (f:Nat->Nat->Option Nat)(r o:Nat)(x:Option Nat):Nat->Nat->Option Nat:=fun a b=>if a=r/\b=o then x else f a b
def cW7 (s:Spc)(t r p:Nat)(outs:Int)(st:RunZ)(o:Nat):RunZ:=
 if bH9 outs (bK1 o) then
  if¬bS3 s.wide s.high (r:Int) (bK1 o)\/((st.q r o).length:Int)=s.room then {st with drp:=st.drp++[(p,r,bK1 o,t)]}
  else {st with q:=upQ st.q r o (st.q r o++[p])}
 else st
def cW6 (s:Spc)(tabs:List (List Ety))(pk:List Pkt)(t r:Nat)(st:RunZ)(p:Nat):RunZ:=
 match bH0 ((tabs[r]?).getD []) ((pk[p]?.map (·.key)).getD 0) with
 |none=>{st with drp:=st.drp++[(p,r,0,t)]}
 |some outs=>(List.range 5).foldl (cW7 s t r p outs) st
def cF8 (st:RunZ)(r:Nat):List Nat:=(List.range 4).filterMap fun o=>st.co r o
def cL4 (pk:List Pkt)(r:Nat):List Nat:=(List.range pk.length).filter fun p=>decide ((pk[p]?.map (·.src)).getD 0=r)
def dX4 (st:RunZ)(r:Nat):RunZ:={st with co:=fun a b=>if a=r then none else st.co a b}
def inR (s:Spc)(tabs:List (List Ety))(pk:List Pkt)(t:Nat)(st:RunZ)(r:Nat):RunZ:=
 (cF8 st r++if t=0 then cL4 pk r else []).foldl (cW6 s tabs pk t r) (dX4 st r)
def dW6 (s:Spc)(t r:Nat)(st:RunZ)(o:Nat):RunZ:=
 match st.q r o with
 |[]=>st
 |p::l=>
  if o=4 then {st with q:=upQ st.q r o l,arr:=st.arr++[(p,r,t)]}
  else {st with q:=upQ st.q r o l,co:=upC st.co (bZ8 s.wide (r:Int) (bK1 o)).toNat (cZ6 o) (some p)}
def kQ5 (s:Spc)(t:Nat)(st:RunZ)(r:Nat):RunZ:=(List.range 5).foldl (dW6 s t r) st
def hL3 (s:Spc)(tabs:List (List Ety))(pk:List Pkt)(n:Nat)(st:RunZ)(t:Nat):RunZ:=
 (List.range n).foldl (kQ5 s t) ((List.range n).foldl (inR s tabs pk t) st)
def hT9:RunZ:=⟨fun _ _=>[],fun _ _=>none,[],[]⟩
def cL6 (s:Spc)(tabs:List (List Ety))(pk:List Pkt)(n ticks:Nat):RunZ:=(List.range ticks).foldl (hL3 s tabs pk n) hT9
end Go.Gm
namespace Go.Proofs
open Go Go.Vx Go.Gm
def cH4 (fs:List (Nat×TypeId))(ok:Bool):Bool:=decide (fs=[(0,3),(1,3),(2,3)])&&ok
theorem hH4 {T : TypeId} (hrow : T < Tryz.prog.types.size) (hdeep : Tryz.prog.keyType T = true) (hf : (match Tryz.prog.underlying T with | some (.struct fs) => cH4 (fs.toList.map fun f => (f.offset, f.type)) (fs.all (·.name != "_")) | _ => false) = true)
  (hc:Tryz.prog.cellsOf T=3) (a b c:Int) (ha:I64 a) (hb:I64 b) (hcc:I64 c):∃l,keyOf Tryz.prog T (.agg #[.int .i64 a,.int .i64 b,.int .i64 c])=some l:=by
 have hpos:∃d,Tryz.prog.types.size+1=d+2:=⟨Tryz.prog.types.size - 1,by have h:0<Tryz.prog.types.size:=Nat.lt_of_le_of_lt (qB _) hrow;omega⟩
 obtain ⟨d,hd⟩:=hpos
 unfold keyOf
 rw [hdeep,hd]
 cases hu:Tryz.prog.underlying T with
 |none=>rw [hu] at hf;cases hf
 |some td=>
  rw [hu] at hf
  cases td<;>try (cases hf;done)
  rename_i fs
  simp only [cH4,Qd,jy] at hf
  obtain ⟨h1,h2⟩:=hf
  have hform:(Value.agg #[.int .i64 a,.int .i64 b,.int .i64 c]).formed Tryz.prog T=true:=by
   simp [Value.formed,hu,hc]
  simp only [hform,Bool.and_self,if_true]
  unfold Program.keyLits
  rw [hu]
  dsimp only
  have h3:(Value.agg #[.int .i64 a,.int .i64 b,.int .i64 c]).cells.toList=[.int .i64 a,.int .i64 b,.int .i64 c]:=rfl
  rw [h3,jw ⟨by rw [hc];rfl,h2⟩]
  obtain ⟨L,hL⟩:=gX (fs.toList)
  rw [hL] at h1 ⊢
  rcases L with _|⟨f,_|⟨g,_|⟨e,_|⟨k,L⟩⟩⟩⟩
  ·simp at h1
  ·simp at h1
  ·simp at h1
  rotate_left
  ·simp at h1
  ·simp only [qI,QA,List.cons.injEq,Prod.mk.injEq,and_true] at h1
   obtain ⟨⟨f1,f2⟩,⟨g1,g2⟩,e1,e2⟩:=h1
   simp only [List.mapM_cons,List.mapM_nil,f1,f2,g1,g2,e1,e2,Tryz.cellsIK,List.drop_zero,List.drop_succ_cons,List.take_succ_cons,QU]
   rw [bM3 d a ha,bM3 d b hb,bM3 d c hcc]
   exact ⟨_,rfl⟩
def dY7 (k:Prt):Value:=.agg #[.int .i64 (k.r:Int),.int .i64 (bK1 k.o),.int .i64 (k.c:Int)]
def fV1 (k:Prt):Prop:=k.r<65536/\k.o<5/\k.c<2
theorem dY9 {o:Nat}(h:o<5):1<=bK1 o/\bK1 o<=16:=by
 unfold bK1
 have h1:2 ^ o<=2 ^ 4:=Nat.pow_le_pow_right qZ qZ
 have h2:0<2 ^ o:=Nat.two_pow_pos o
 omega
theorem pow2_inj {a b:Nat}(h:bK1 a=bK1 b):a=b:=by
 unfold bK1 at h
 exact (Nat.pow_right_inj (by omega:1<2)).1 (Int.ofNat.inj h)
theorem kX5 (x y:Prt)(h:dY7 x=dY7 y):x=y:=by
 obtain ⟨a,b,c⟩:=x
 obtain ⟨d,e,f⟩:=y
 simp only [dY7,Value.agg.injEq,Array.mk.injEq,List.cons.injEq,Value.int.injEq,true_and,and_true] at h
 obtain ⟨h1,h2,h3⟩:=h
 have:=pow2_inj h2
 congr 1
 ·omega
 ·omega
theorem Tryz.rowPt:(374:TypeId)<Tryz.prog.types.size:=of_decide_eq_true (by kernel_rfl)
theorem Tryz.kindPt:(match Tryz.prog.underlying 374 with|some (.array _ _)|some (.struct _)=>true|_=>false)=true:=by kernel_rfl
set_option maxRecDepth 100000 in
theorem Tryz.lawPt:WideMaps.KeyLaw Tryz.prog 374:=deep_law_laid Tryz.laidK (m:=2) qZ Tryz.rowPt (by kernel_rfl) Tryz.kindPt
set_option maxRecDepth 100000 in
theorem Tryz.deepPt:Tryz.prog.keyType 374=true:=by kernel_rfl
theorem Tryz.fldPt : (match Tryz.prog.underlying 374 with | some (.struct fs) => cH4 (fs.toList.map fun f => (f.offset, f.type)) (fs.all (·.name != "_")) | _ => false) = true := by kernel_rfl
theorem Tryz.cellsPt:Tryz.prog.cellsOf 374=3:=by kernel_rfl
theorem fB6:KeyTy 374 dY7 fV1:=⟨Tryz.lawPt,fun x hx=>hH4 Tryz.rowPt Tryz.deepPt Tryz.fldPt Tryz.cellsPt _ _ _ (by have:=hx.1;unfold I64;omega) (by have:=dY9 hx.2.1;unfold I64;omega) (by have:=hx.2.2;unfold I64;omega),kX5⟩
end Go.Proofs
end

section
namespace Go.Vx
open Go
structure Vis (es:Array MapEntry) (seen:Array Nat) (vs:List MapEntry):Prop where
 seen:seen.toList=vs.map (·.born)
 sub:∀y∈vs,y∈es.toList
 nodup:vs.Nodup
def hF6 (es:Array MapEntry)(seen:Array Nat):Nat:=es.toList.countP fun x=>decide (x.born∉seen)
theorem dT5 {es:Array MapEntry}{seen:Array Nat}{x:MapEntry}(hx:x∈es.toList)(hn:x.born∉seen):hF6 es (seen.push x.born)<hF6 es seen:=by
 unfold hF6
 have key:∀l:List MapEntry,x∈l->l.countP (fun y=>decide (y.born∉seen.push x.born))<l.countP (fun y=>decide (y.born∉seen)):=by
  intro l
  induction l with
  |nil=>intro h;cases h
  |cons y l ih=>
   intro h
   have hle:∀l:List MapEntry,l.countP (fun y=>decide (y.born∉seen.push x.born))<=l.countP (fun y=>decide (y.born∉seen)):=by
    intro l
    refine List.countP_mono_left fun z _ hz=>?_
    simp only [jy,Array.mem_push,not_or] at hz ⊢
    exact hz.1
   rw [List.countP_cons,List.countP_cons]
   by_cases e:y=x
   ·subst e
    have h1:=hle l
    have h2:decide (y.born∉seen.push y.born)=false:=by simp
    have h3:decide (y.born∉seen)=true:=decide_eq_true hn
    rw [h2,h3]
    simp only [QV,if_false,if_true]
    omega
   ·have h1:=ih ((qQ.1 h).resolve_left fun e2=>e e2.symm)
    by_cases h2:y.born∈seen.push x.born
    ·have h3:decide (y.born∉seen.push x.born)=false:=decide_eq_false (fun h=>h h2)
     rw [h3]
     simp only [QV,if_false]
     split<;>omega
    ·have h3:y.born∉seen:=fun h3=>h2 (Array.mem_push_of_mem _ h3)
     have h4:decide (y.born∉seen.push x.born)=true:=decide_eq_true h2
     have h5:decide (y.born∉seen)=true:=decide_eq_true h3
     rw [h4,h5]
     simp only [if_true]
     omega
 exact key _ hx
theorem Vis.nil (es:Array MapEntry):Vis es #[] []:=⟨rfl,by simp,List.nodup_nil⟩
theorem fK0 {es:Array MapEntry}{clock:Nat}(hst:MapKept.Stamped es clock){x y:MapEntry}(hx:x∈es.toList)(hy:y∈es.toList)(h:x.born=y.born):x=y:=by
 obtain ⟨i,hi⟩:=jh hx
 obtain ⟨j,hj⟩:=jh hy
 have e1:(es.toList.map (·.born))[i]? =some x.born:=by rw [qj,hi];rfl
 have e2:(es.toList.map (·.born))[j]? =some x.born:=by rw [qj,hj,h];rfl
 have e3:=(List.getElem?_inj (qx.1 e1).1 hst.2.1).1 (e1.trans e2.symm)
 subst e3
 rw [hi] at hj
 exact Option.some.inj hj
theorem fM5 {es:Array MapEntry}{clock:Nat}(hst:MapKept.Stamped es clock){x:MapEntry}(hx:x∈es.toList):es.find? (fun e=>e.born==x.born)=some x:=by
 rw [<-Array.find?_toList]
 cases h:es.toList.find? (fun e=>e.born==x.born) with
 |none=>
  have:=List.find?_eq_none.1 h x hx
  simp at this
 |some y=>
  have h1:=List.mem_of_find?_eq_some h
  have h2:=List.find?_some h
  simp only [beq_iff_eq] at h2
  rw [fK0 hst h1 hx h2]
theorem Vis.next {es:Array MapEntry}{seen:Array Nat}{vs:List MapEntry}(h:Vis es seen vs){x:MapEntry}(hx:x∈es.toList)(hn:x.born∉seen):Vis es (seen.push x.born) (vs++[x]):=by
 refine ⟨by rw [Array.toList_push,h.seen,ql];rfl,fun y hy=>?_,?_⟩
 ·rcases qH.1 hy with hy|hy
  ·exact h.sub y hy
  ·rw [qt] at hy;subst hy;exact hx
 ·rw [Qe]
  refine ⟨h.nodup,by simp,fun a ha b hb e=>?_⟩
  rw [qt] at hb
  subst hb;subst e
  refine hn ?_
  rw [<-Array.mem_toList_iff,h.seen]
  exact qN ha
theorem Vis.done {es:Array MapEntry}{clock:Nat}(hst:MapKept.Stamped es clock){seen:Array Nat}{vs:List MapEntry}(h:Vis es seen vs)(hall:∀x∈es.toList,x.born∈seen):vs.Perm es.toList:=by
 have hnd:es.toList.Nodup:=by
  have:=hst.2.1
  rw [List.Nodup,List.pairwise_map] at this
  exact this.imp fun h1 e=>h1 (by rw [e])
 refine (List.perm_ext_iff_of_nodup h.nodup hnd).2 fun y=>⟨h.sub y,fun hy=>?_⟩
 have:=hall y hy
 rw [<-Array.mem_toList_iff,h.seen,qo] at this
 obtain ⟨z,hz,he⟩:=this
 rw [fK0 hst (h.sub z hz) hy he] at hz
 exact hz
theorem cV2 {α:Type}[DecidableEq α]:∀{l m:List α},l.Nodup->(∀x∈l,x∈m)->l.length<=m.length
 |[],_,_,_=>qB _
 |x::l,m,h,hs=>by
  rw [QC] at h
  have hx:=hs x qg
  have h1:=cV2 (l:=l) (m:=m.erase x) h.2 fun y hy=>(List.mem_erase_of_ne fun e=>h.1 (by rw [<-e];exact hy)).2 (hs y (qu _ hy))
  rw [List.length_erase_of_mem hx] at h1
  have:=List.length_pos_of_mem hx
  rw [qR];omega
theorem Vis.len {es:Array MapEntry}{clock:Nat}(hst:MapKept.Stamped es clock){seen:Array Nat}{vs:List MapEntry}(h:Vis es seen vs):vs.length<=es.size:=by
 have h1:(vs.map (·.born)).Nodup:=by
  rw [List.Nodup,List.pairwise_map]
  exact h.nodup.imp_of_mem fun ha hb hne e=>hne (fK0 hst (h.sub _ ha) (h.sub _ hb) e)
 have h2:=cV2 (m:=es.toList.map (·.born)) h1 fun x hx=>by
  obtain ⟨y,hy,rfl⟩:=qo.1 hx
  exact qN (h.sub y hy)
 rw [qv,qv] at h2
 simpa using h2
theorem gK0 {H H' r:HP}{u:Ent->HP}{b clock:Nat}{es:Array MapEntry}{m:List (Int×Value)}(h:At H (.obj b (.map es clock)) u r)(hes:es.toList.map (fun x=>(x.key,x.val))=m.map (fun x=>(Value.int .i64 x.1,x.2)))(hst:MapKept.Stamped es clock)(hr:HLe H' r):HLe (.map b m::H') H:=
 HLe.weak h hr (fun w hw=>⟨es,clock,hw,hes,hst⟩) rfl
theorem hS2 {α:Type}{f:α->Int×Value}{es:Array MapEntry}{l:List α}(hes:es.toList.map (fun x=>(x.key,x.val))=(l.map f).map (fun x=>(Value.int .i64 x.1,x.2))){x:MapEntry}(hx:x∈es.toList):
  ∃d∈l,x.key=.int .i64 (f d).1/\x.val=(f d).2:=by
 have h1:(x.key,x.val)∈es.toList.map (fun x=>(x.key,x.val)):=qN (f:=fun x:MapEntry=>(x.key,x.val)) hx
 rw [hes,List.map_map] at h1
 obtain ⟨d,hd,he⟩:=qo.1 h1
 simp only [Function.comp_apply,Prod.mk.injEq] at he
 exact ⟨d,hd,he.1.symm,he.2.symm⟩
def kS5:Value->Int
 | .int _ n=>n
 |_=>0
theorem hS3 {α:Type}{f:α->Int×Value}{es:Array MapEntry}{l:List α}(hes:es.toList.map (fun x=>(x.key,x.val))=(l.map f).map (fun x=>(Value.int .i64 x.1,x.2))){vs:List MapEntry}(h:vs.Perm es.toList):(vs.map fun x=>kS5 x.key).Perm (l.map fun d=>(f d).1):=by
 have h1:(vs.map fun x=>kS5 x.key).Perm (es.toList.map fun x=>kS5 x.key):=h.map _
 have h2:es.toList.map (fun x=>kS5 x.key)=l.map fun d=>(f d).1:=by
  have:=congrArg (fun L=>L.map fun p:Value×Value=>kS5 p.1) hes
  simp only [List.map_map] at this
  exact this
 rw [h2] at h1
 exact h1
theorem fH3 {m:List (Int×Value)}{j:Int}(h:∀p∈m,p.1≠j):bZ4 m j=none/\∀v,cB4 m j v=m++[(j,v)]:=by
 induction m with
 |nil=>exact ⟨rfl,fun _=>rfl⟩
 |cons p r ih=>
  obtain ⟨h1,h2⟩:=ih fun q hq=>h q (qu _ hq)
  have hp:=h p qg
  obtain ⟨a,v0⟩:=p
  constructor
  ·simp only [bZ4]
   rw [jk hp];exact h1
  ·intro v
   simp only [cB4]
   rw [jk hp,h2];rfl
end Go.Vx
end
