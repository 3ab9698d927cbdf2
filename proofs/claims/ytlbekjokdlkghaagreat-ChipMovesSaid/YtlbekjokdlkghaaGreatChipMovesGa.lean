import Derived.Test.YtlbekjokdlkghaaGreatChipMovesA0
set_option linter.unusedSimpArgs false
section
namespace Go.Gm
def I64 (x:Int):Prop:= -9223372036854775808<=x/\x<=9223372036854775807
structure Par where
 lk:Int
 lv:Int
 bias:Int
 th:Int
 rk:Int
 rs:Int
 fl:Int
 rest:Int
 deriving DecidableEq
structure Par.wf (p:Par):Prop where
 lk:I64 p.lk
 lv:I64 p.lv
 bias:I64 p.bias
 th:I64 p.th
 rk:I64 p.rk
 rs:I64 p.rs
 fl:I64 p.fl
 rest:I64 p.rest
structure Sta where
 v:Int
 rest:Int
 deriving DecidableEq
def Sta.wf (s:Sta):Prop:=I64 s.v/\I64 s.rest
def cW0 (p:Par):Prop:=
 (p.lk=0/\p.lv=0)\/(p.lk=1/\1<=p.lv/\p.lv<=1048576)\/(p.lk=2/\1<=p.lv/\p.lv<=256)
def cX0 (p:Par):Prop:=
 cW0 p/\(-1048576<=p.bias/\p.bias<=1048576)/\(-1048576<=p.fl/\p.fl<=0)/\(1<=p.th/\p.th<=1048576)/\(0<=p.rest/\p.rest<=64)/\
  ((p.rk=1/\p.rs=0)\/(p.rk=0/\p.fl<=p.rs/\p.rs<=p.th - 1))
instance (p:Par):Decidable (cW0 p):=by unfold cW0;infer_instance
instance (p:Par):Decidable (cX0 p):=by unfold cX0;infer_instance
def bC7 (p:Par):Prop:=(0<=p.lk/\p.lk<=2)/\(0<=p.rk/\p.rk<=1)
instance (p:Par):Decidable (bC7 p):=by unfold bC7;infer_instance
def chk (p:Par):Int:=if bC7 p then (if cX0 p then 0 else 3) else 2
theorem lX2 {p:Par}(h:¬bC7 p):chk p=2:=by simp [chk,h]
theorem hN1 {p:Par}(h:bC7 p)(h2:¬cX0 p):chk p=3:=by simp [chk,h,h2]
theorem kF3 {p:Par}(h:bC7 p)(h2:cX0 p):chk p=0:=by simp [chk,h,h2]
def bD9 (p:Par)(s:Sta):Prop:=(p.fl<=s.v/\s.v<=1048576)/\(0<=s.rest/\s.rest<=p.rest)
instance (p:Par) (s:Sta):Decidable (bD9 p s):=by unfold bD9;infer_instance
def kD2 (p:Par)(s:Sta):Int:=if chk p=0 then (if bD9 p s then 0 else 3) else chk p
def leak (p:Par)(v:Int):Int:=
 if p.lk=1 then (if v<0 then min 0 (v+p.lv) else max 0 (v - p.lv)) else if p.lk=2 then v - (v*p.lv).tdiv 256 else v
def cH3 (p:Par)(s:Sta)(x:Int):Int:=max p.fl (min 1048576 (leak p s.v+p.bias+max (-4194304) (min 4194304 x)))
def tick (p:Par)(s:Sta)(x:Int):Sta×Bool:=
 if 0<s.rest then (⟨s.v,s.rest - 1⟩,false)
 else if cH3 p s x<p.th then (⟨cH3 p s x,s.rest⟩,false)
 else (⟨if p.rk=1 then cH3 p s x - p.th else p.rs,p.rest⟩,true)
theorem dV8 {p:Par}{s:Sta}{x:Int}(h:0<s.rest):tick p s x=(⟨s.v,s.rest - 1⟩,false):=by simp [tick,h]
theorem dL0 {p:Par}{s:Sta}{x:Int}{v:Int}(hv:cH3 p s x=v)(h:¬0<s.rest)(h2:v<p.th):tick p s x=(⟨v,s.rest⟩,false):=by simp [tick,h,hv,h2]
theorem dS9 {p:Par}{s:Sta}{x:Int}{v:Int}(hv:cH3 p s x=v)(h:¬0<s.rest)(h2:¬v<p.th)(h3:p.rk=1):tick p s x=(⟨v - p.th,p.rest⟩,true):=by simp [tick,h,hv,h2,h3]
theorem fC9 {p:Par}{s:Sta}{x:Int}{v:Int}(hv:cH3 p s x=v)(h:¬0<s.rest)(h2:¬v<p.th)(h3:¬p.rk=1):tick p s x=(⟨p.rs,p.rest⟩,true):=by simp [tick,h,hv,h2,h3]
theorem gZ2 {p:Par}:chk p=0<->bC7 p/\cX0 p:=by
 unfold chk;split<;>(try split)<;>simp_all
structure ParOk (p:Par):Prop where
 lk:0<=p.lk/\p.lk<=2
 rk:0<=p.rk/\p.rk<=1
 leak:cW0 p
 bias: -1048576<=p.bias/\p.bias<=1048576
 fl: -1048576<=p.fl/\p.fl<=0
 th:1<=p.th/\p.th<=1048576
 rest:0<=p.rest/\p.rest<=64
 rs:(p.rk=1/\p.rs=0)\/(p.rk=0/\p.fl<=p.rs/\p.rs<=p.th - 1)
theorem dJ7 {p:Par}:chk p=0<->ParOk p:=by
 rw [gZ2]
 unfold bC7 cX0
 constructor
 ·rintro ⟨⟨h1,h2⟩,h3,h4,h5,h6,h7,h8⟩
  exact ⟨h1,h2,h3,h4,h5,h6,h7,h8⟩
 ·rintro ⟨h1,h2,h3,h4,h5,h6,h7,h8⟩
  exact ⟨⟨h1,h2⟩,h3,h4,h5,h6,h7,h8⟩
theorem fM0 {p:Par}{s:Sta}:kD2 p s=0<->ParOk p/\bD9 p s:=by
 unfold kD2
 rw [<-dJ7]
 split
 ·split<;>simp_all
 ·simp_all
theorem ParOk.wf {p:Par}(h:ParOk p):p.wf:=by
 obtain ⟨h1,h2,h3,h4,h5,h6,h7,h8⟩:=h
 unfold cW0 at h3
 constructor<;>unfold I64<;>omega
theorem fF9 {a b A B:Int}(h1: -A<=a)(h2:a<=A)(h3:0<=b)(h4:b<=B)(hA:0<=A): -(A*B)<=a*b/\a*b<=A*B:=by
 have e1:a*b<=A*b:=Int.mul_le_mul_of_nonneg_right h2 h3
 have e2:A*b<=A*B:=Int.mul_le_mul_of_nonneg_left h4 hA
 have e3: -A*b<=a*b:=Int.mul_le_mul_of_nonneg_right h1 h3
 have e4: -A*b= -(A*b):=Int.neg_mul A b
 omega
theorem cL3 {p:Par}(hp:ParOk p)(h:p.lk=2){v:Int}(h1: -1048576<=v)(h2:v<=1048576): -268435456<=v*p.lv/\v*p.lv<=268435456:=by
 have h3:=hp.leak
 unfold cW0 at h3
 have:=fF9 (a:=v) (b:=p.lv) (A:=1048576) (B:=256) qZ qZ qZ qZ qZ
 omega
theorem kN2 (a:Int):(0<=a->0<=a.tdiv 256/\a.tdiv 256<=a)/\(a<=0->a<=a.tdiv 256/\a.tdiv 256<=0):=by
 constructor
 ·intro h
  rw [Int.tdiv_eq_ediv_of_nonneg h];omega
 ·intro h
  have:a= -(-a):=by omega
  rw [this,Int.neg_tdiv,Int.tdiv_eq_ediv_of_nonneg qZ];omega
theorem gQ1 {p:Par}(hp:ParOk p){v:Int}(h1: -1048576<=v)(h2:v<=1048576): -268435456<=leak p v/\leak p v<=268435456:=by
 have h3:=hp.leak
 unfold cW0 at h3
 unfold leak
 split
 ·split<;>omega
 ·split
  ·rename_i h
   have h4:=cL3 hp h h1 h2
   have h5:=kN2 (v*p.lv)
   rcases Int.le_total 0 v with h6|h6
   ·have h7:0<=v*p.lv:=Int.mul_nonneg h6 qZ
    have:=h5.1 h7
    omega
   ·have h7:v*p.lv<=0:=Int.mul_nonpos_of_nonpos_of_nonneg h6 qZ
    have:=h5.2 h7
    omega
  ·omega
theorem fW3 {p:Par}(hp:ParOk p)(s:Sta)(x:Int):p.fl<=cH3 p s x/\cH3 p s x<=1048576:=by
 have:=hp.fl
 unfold cH3
 omega
theorem hQ7 {p:Par}{s:Sta}(hp:ParOk p)(hs:bD9 p s)(x:Int):bD9 p (tick p s x).1:=by
 have hv:=fW3 hp s x
 obtain ⟨h1,h2,h3,h4,h5,h6,h7,h8⟩:=hp
 unfold bD9 at*
 unfold tick
 split
 ·dsimp only;omega
 ·split
  ·dsimp only;omega
  ·dsimp only
   split<;>omega
end Go.Gm
end
section
set_option linter.unusedVariables false
namespace Go.Gm
structure Syn where
 frm:Int
 to:Int
 wt:Int
 dl:Int
 deriving DecidableEq
def Syn.wf (s:Syn):Prop:=I64 s.frm/\I64 s.to/\I64 s.wt/\I64 s.dl
structure Net where
 ps:List Par
 inputs:Int
 syns:List Syn
 deriving DecidableEq
structure Net.wf (n:Net):Prop where
 ps:∀p∈n.ps,p.wf
 inputs:I64 n.inputs
 syns:∀s∈n.syns,s.wf
structure Evt where
 tick:Int
 id:Int
 deriving DecidableEq
def Evt.wf (x:Evt):Prop:=I64 x.tick/\I64 x.id
def cT4 (n:Net)(f:Int):Prop:= -n.inputs<=f/\f<=(n.ps.length:Int) - 1
instance (n:Net) (f:Int):Decidable (cT4 n f):=by unfold cT4;infer_instance
def dX9 (n:Net)(s:Syn):Prop:=cT4 n s.frm/\(0<=s.to/\s.to<=(n.ps.length:Int) - 1)/\(-32768<=s.wt/\s.wt<=32768)/\(1<=s.dl/\s.dl<=16)
instance (n:Net) (s:Syn):Decidable (dX9 n s):=by unfold dX9;infer_instance
def bV4:List Par->Int
 |[]=>0
 |p::r=>if chk p≠0 then chk p else bV4 r
def bS7 (n:Net):List Syn->Bool
 |[]=>true
 |s::r=>if dX9 n s then bS7 n r else false
def bG3 (n:Net):Int:=
 if n.ps.length=0 then 2
 else if 1024<n.ps.length\/256<n.inputs\/8192<n.syns.length then 9
 else if n.inputs<0 then 3
 else if bV4 n.ps≠0 then bV4 n.ps
 else if bS7 n n.syns then 0 else 3
theorem fZ4 {l:List Par}{i:Nat}{p:Par}(h:l[i]? =some p)(h0:chk p=0):bV4 (l.drop i)=bV4 (l.drop (i+1)):=by
 obtain ⟨hlt,rfl⟩:=qx.1 h
 rw [qG hlt]
 simp [bV4,h0]
theorem fP2 {l:List Par}{i:Nat}{p:Par}(h:l[i]? =some p)(h0:chk p≠0):bV4 (l.drop i)=chk p:=by
 obtain ⟨hlt,rfl⟩:=qx.1 h
 rw [qG hlt]
 simp [bV4,h0]
theorem fT6 {n:Net}{l:List Syn}{i:Nat}{s:Syn}(h:l[i]? =some s)(h0:dX9 n s):bS7 n (l.drop i)=bS7 n (l.drop (i+1)):=by
 obtain ⟨hlt,rfl⟩:=qx.1 h
 rw [qG hlt]
 simp [bS7,h0]
theorem gD1 {n:Net}{l:List Syn}{i:Nat}{s:Syn}(h:l[i]? =some s)(h0:¬dX9 n s):bS7 n (l.drop i)=false:=by
 obtain ⟨hlt,rfl⟩:=qx.1 h
 rw [qG hlt]
 simp [bS7,h0]
theorem dN6 {n:Net}{l:List Syn}:bS7 n l=true<->∀s∈l,dX9 n s:=by
 induction l with
 |nil=>simp [bS7]
 |cons s r ih=>by_cases h:dX9 n s<;>simp [bS7,h,ih]
theorem cN7 {l:List Par}:bV4 l=0<->∀p∈l,ParOk p:=by
 induction l with
 |nil=>simp [bV4]
 |cons p r ih=>
  by_cases h:chk p=0
  ·simp [bV4,h,ih,dJ7.1 h]
  ·have h':¬ParOk p:=fun hp=>h (dJ7.2 hp)
   simp [bV4,h,h']
structure NetOk (n:Net):Prop where
 some:0<n.ps.length
 few:n.ps.length<=1024
 inputs:0<=n.inputs/\n.inputs<=256
 fewS:n.syns.length<=8192
 ps:∀p∈n.ps,ParOk p
 syns:∀s∈n.syns,dX9 n s
theorem gN8 {n:Net}(h:n.ps.length=0):bG3 n=2:=by unfold bG3;rw [jw h]
theorem cB3 {n:Net}(h:n.ps.length≠0)(h2:1024<n.ps.length\/256<n.inputs\/8192<n.syns.length):bG3 n=9:=by unfold bG3;rw [jk h,jw h2]
theorem fF6 {n:Net}(h:n.ps.length≠0)(h2:¬(1024<n.ps.length\/256<n.inputs\/8192<n.syns.length))(h3:n.inputs<0):bG3 n=3:=by unfold bG3;rw [jk h,jk h2,jw h3]
theorem gN7 {n:Net}(h:n.ps.length≠0)(h2:¬(1024<n.ps.length\/256<n.inputs\/8192<n.syns.length))(h3:¬n.inputs<0)(h4:bV4 n.ps≠0):bG3 n=bV4 n.ps:=by
 unfold bG3;rw [jk h,jk h2,jk h3,jw h4]
theorem dC7 {n:Net}(h:n.ps.length≠0)(h2:¬(1024<n.ps.length\/256<n.inputs\/8192<n.syns.length))(h3:¬n.inputs<0)(h4:bV4 n.ps=0):bG3 n=if bS7 n n.syns then 0 else 3:=by
 unfold bG3;rw [jk h,jk h2,jk h3,jk (by simp [h4])]
theorem bJ4 {n:Net}:bG3 n=0<->NetOk n:=by
 unfold bG3
 constructor
 ·intro h
  split at h
  ·cases h
  ·split at h
   ·cases h
   ·split at h
    ·cases h
    ·split at h
     ·contradiction
     ·split at h
      ·rename_i h1 h2 h3 h4 h5
       simp only [ne_eq,Qm] at h4
       exact ⟨by omega,by omega,by omega,by omega,cN7.1 h4,dN6.1 h5⟩
      ·cases h
 ·rintro ⟨h1,h2,h3,h4,h5,h6⟩
  rw [jk qZ,jk qZ,jk qZ,jk (by simpa using cN7.2 h5),jw (dN6.2 h6)]
def bH2:List (Int×List Syn)->Syn->List (Int×List Syn)
 |[],s=>[(s.frm,[s])]
 |x::r,s=>if x.1=s.frm then (x.1,x.2++[s])::r else x::bH2 r s
def cJ7 (l:List Syn):List (Int×List Syn):=l.foldl bH2 []
def bD1:List (Int×List Syn)->Int->List Syn
 |[],_=>[]
 |x::r,k=>if x.1=k then x.2 else bD1 r k
theorem gL5 (m:List (Int×List Syn))(s:Syn)(k:Int):bD1 (bH2 m s) k=bD1 m k++(if s.frm=k then [s] else []):=by
 induction m with
 |nil=>by_cases h:s.frm=k<;>simp [bH2,bD1,h]
 |cons x r ih=>
  obtain ⟨a,l⟩:=x
  by_cases h:a=s.frm
  ·subst h
   by_cases h2:s.frm=k
   ·simp [bH2,bD1,h2]
   ·simp [bH2,bD1,h2]
  ·by_cases h3:a=k
   ·have h2:¬s.frm=k:=fun e=>h (h3.trans e.symm)
    simp only [bH2,jk h,bD1,jw h3,jk h2,qC]
   ·simp only [bH2,jk h,bD1,jk h3,ih]
theorem cY2 (l:List Syn)(k:Int):bD1 (cJ7 l) k=l.filter (fun s=>s.frm=k):=by
 have:∀(l:List Syn) (m:List (Int×List Syn)),bD1 (l.foldl bH2 m) k=bD1 m k++l.filter (fun s=>s.frm=k):=by
  intro l
  induction l with
  |nil=>intro m;simp
  |cons s r ih=>
   intro m
   rw [Qp,ih,gL5]
   by_cases h:s.frm=k<;>simp [h]
 simpa [cJ7,bD1] using this l []
theorem fV8 {l:List Syn}{i:Nat}{s:Syn}(h:l[i]? =some s):cJ7 (l.take (i+1))=bH2 (cJ7 (l.take i)) s:=by
 obtain ⟨hlt,rfl⟩:=qx.1 h
 simp only [cJ7,qi,h,qW,Qx,Qp,List.foldl_nil]
def cN9 (inputs limit:Int)(x:Evt):Prop:=¬(0<=x.tick/\x.tick<=limit - 1)\/¬(0<=x.id/\x.id<=inputs - 1)
instance (a b:Int) (x:Evt):Decidable (cN9 a b x):=by unfold cN9;infer_instance
def dQ9 (p x:Evt):Prop:=x.tick<p.tick\/(x.tick=p.tick/\x.id<=p.id)
instance (p x:Evt):Decidable (dQ9 p x):=by unfold dQ9;infer_instance
def bR4 (x:Evt):Option Evt->Prop
 |none=>False
 |some p=>dQ9 p x
instance (x:Evt) (p:Option Evt):Decidable (bR4 x p):=by cases p<;>(unfold bR4;infer_instance)
def bC1 (inputs limit:Int):Option Evt->List Evt->Int
 |_,[]=>0
 |p,x::r=>if cN9 inputs limit x then 3 else if bR4 x p then 2 else bC1 inputs limit (some x) r
def cJ1 {α:Type}(l:List α):Nat->Option α
 |0=>none
 |i+1=>l[i]?
def gX6 (inputs limit:Int)(l:List Evt):Int:=if 65536<l.length then 9 else bC1 inputs limit none l
theorem dC5 {inputs limit:Int}{l:List Evt}{i:Nat}{x:Evt}{p:Option Evt}(h:l[i]? =some x)(hb:cN9 inputs limit x):bC1 inputs limit p (l.drop i)=3:=by
 obtain ⟨hlt,rfl⟩:=qx.1 h
 rw [qG hlt];simp [bC1,hb]
theorem fS8 {inputs limit:Int}{l:List Evt}{i:Nat}{x:Evt}{p:Option Evt}(h:l[i]? =some x)(hb:¬cN9 inputs limit x)(hl:bR4 x p):bC1 inputs limit p (l.drop i)=2:=by
 obtain ⟨hlt,rfl⟩:=qx.1 h
 rw [qG hlt];simp [bC1,hb,hl]
theorem dG4 {inputs limit:Int}{l:List Evt}{i:Nat}{x:Evt}{p:Option Evt}(h:l[i]? =some x)(hb:¬cN9 inputs limit x)(hl:¬bR4 x p):bC1 inputs limit p (l.drop i)=bC1 inputs limit (cJ1 l (i+1)) (l.drop (i+1)):=by
 have h':=h
 obtain ⟨hlt,rfl⟩:=qx.1 h
 rw [qG hlt];simp [bC1,hb,hl,cJ1,h']
def gH1 (p x:Evt):Prop:=p.tick<x.tick\/(p.tick=x.tick/\p.id<x.id)
theorem dR3 {p x:Evt}:¬dQ9 p x<->gH1 p x:=by unfold dQ9 gH1;omega
structure EvOk (inputs limit:Int) (l:List Evt):Prop where
 few:l.length<=65536
 range:∀x∈l,(0<=x.tick/\x.tick<limit)/\(0<=x.id/\x.id<inputs)
 sorted:l.Pairwise gH1
theorem cB0 {inputs limit:Int}:∀(l:List Evt) (p:Option Evt),bC1 inputs limit p l=0<->
  (∀x∈l,(0<=x.tick/\x.tick<limit)/\(0<=x.id/\x.id<inputs))/\l.Pairwise gH1/\(∀q,p=some q->∀x∈l,gH1 q x)
 |[],p=>by simp [bC1]
 |x::r,p=>by
  have ih:=cB0 (inputs:=inputs) (limit:=limit) r (some x)
  unfold bC1
  by_cases hb:cN9 inputs limit x
  ·simp only [hb,if_true]
   refine ⟨fun h=>(by cases h),fun ⟨h1,_⟩=>?_⟩
   have:=h1 x oU
   unfold cN9 at hb
   omega
  ·simp only [hb,if_false]
   by_cases hl:bR4 x p
   ·simp only [hl,if_true]
    refine ⟨fun h=>(by cases h),fun ⟨_,_,h3⟩=>?_⟩
    cases p with
    |none=>exact hl.elim
    |some q=>exact absurd hl (dR3.2 (h3 q rfl x oU))
   ·simp only [hl,if_false]
    rw [ih]
    simp only [qQ,forall_eq_or_imp,List.pairwise_cons,qK,forall_eq']
    have hb':(0<=x.tick/\x.tick<limit)/\(0<=x.id/\x.id<inputs):=by unfold cN9 at hb;omega
    constructor
    ·rintro ⟨h1,h2,h3⟩
     refine ⟨⟨hb',h1⟩,⟨h3,h2⟩,fun q hq=>?_⟩
     subst hq
     have hqx:gH1 q x:=dR3.1 hl
     refine ⟨hqx,fun y hy=>?_⟩
     have:=h3 y hy
     unfold gH1 at*
     omega
    ·rintro ⟨⟨_,h1⟩,⟨h3,h2⟩,_⟩
     exact ⟨h1,h2,h3⟩
theorem gT3 {inputs limit:Int}{l:List Evt}:gX6 inputs limit l=0<->EvOk inputs limit l:=by
 unfold gX6
 constructor
 ·intro h
  split at h
  ·cases h
  ·obtain ⟨h1,h2,_⟩:=(cB0 l none).1 h
   exact ⟨by omega,h1,h2⟩
 ·rintro ⟨h1,h2,h3⟩
  rw [jk qZ]
  exact (cB0 l none).2 ⟨h2,h3,by simp⟩
def cN5 (inputs k:Int):Prop:=¬(0<=k/\k<=inputs - 1)
instance (a k:Int):Decidable (cN5 a k):=by unfold cN5;infer_instance
def bD7 (k:Int):Option Int->Prop
 |none=>False
 |some p=>k<=p
instance (x:Int) (p:Option Int):Decidable (bD7 x p):=by cases p<;>(unfold bD7;infer_instance)
def bP9 (inputs:Int):Option Int->List Int->Int
 |_,[]=>0
 |p,k::r=>if cN5 inputs k then 3 else if bD7 k p then 2 else bP9 inputs (some k) r
theorem dS0 {inputs:Int}{l:List Int}{i:Nat}{x:Int}{p:Option Int}(h:l[i]? =some x)(hb:cN5 inputs x):bP9 inputs p (l.drop i)=3:=by
 obtain ⟨hlt,rfl⟩:=qx.1 h
 rw [qG hlt];simp [bP9,hb]
theorem gZ7 {inputs:Int}{l:List Int}{i:Nat}{x:Int}{p:Option Int}(h:l[i]? =some x)(hb:¬cN5 inputs x)(hl:bD7 x p):bP9 inputs p (l.drop i)=2:=by
 obtain ⟨hlt,rfl⟩:=qx.1 h
 rw [qG hlt];simp [bP9,hb,hl]
theorem dP1 {inputs:Int}{l:List Int}{i:Nat}{x:Int}{p:Option Int}(h:l[i]? =some x)(hb:¬cN5 inputs x)(hl:¬bD7 x p):bP9 inputs p (l.drop i)=bP9 inputs (cJ1 l (i+1)) (l.drop (i+1)):=by
 have h':=h
 obtain ⟨hlt,rfl⟩:=qx.1 h
 rw [qG hlt];simp [bP9,hb,hl,cJ1,h']
def wadd (a b:Int):Int:=(a+b+9223372036854775808)%18446744073709551616 - 9223372036854775808
def fire:List Par->List Sta->List Int->List (Sta×Bool)
 |p::ps,s::ss,x::xs=>tick p s x::fire ps ss xs
 |_,_,_=>[]
def bW8:Nat->List (Sta×Bool)->List Int
 |_,[]=>[]
 |k,x::r=>if x.2 then (k:Int)::bW8 (k+1) r else bW8 (k+1) r
def spk (F:List (Sta×Bool)):List Int:=bW8 0 F
theorem cP0 {ps:List Par}{ss:List Sta}{xs:List Int}(h1:ss.length=ps.length)(h2:xs.length=ps.length):(fire ps ss xs).length=ps.length:=by
 induction ps generalizing ss xs with
 |nil=>cases ss<;>cases xs<;>simp_all [fire]
 |cons p ps ih=>
  cases ss with
  |nil=>simp at h1
  |cons s ss=>
   cases xs with
   |nil=>simp at h2
   |cons x xs=>simp only [fire,qR] at*;rw [ih qZ qZ]
theorem fZ5 {ps:List Par}{ss:List Sta}{xs:List Int}{i:Nat}{p:Par}{s:Sta}{x:Int}(h1:ps[i]? =some p)(h2:ss[i]? =some s)(h3:xs[i]? =some x):(fire ps ss xs)[i]? =some (tick p s x):=by
 induction ps generalizing ss xs i with
 |nil=>simp at h1
 |cons q ps ih=>
  cases ss with
  |nil=>simp at h2
  |cons s' ss=>
   cases xs with
   |nil=>simp at h3
   |cons x' xs=>
    cases i with
    |zero=>simp_all [fire]
    |succ i=>simp only [fire,Qv] at*;exact ih h1 h2 h3
theorem dD5 (F G:List (Sta×Bool))(k:Nat):bW8 k (F++G)=bW8 k F++bW8 (k+F.length) G:=by
 induction F generalizing k with
 |nil=>simp [bW8]
 |cons x F ih=>
  simp only [Qw,bW8,qR,ih]
  have:k+1+F.length=k+(F.length+1):=by omega
  rw [this]
  split<;>simp
theorem gV8 {F:List (Sta×Bool)}{i:Nat}{x:Sta×Bool}(h:F[i]? =some x):spk (F.take (i+1))=spk (F.take i)++(if x.2 then [(i:Int)] else []):=by
 obtain ⟨hlt,rfl⟩:=qx.1 h
 unfold spk
 rw [qi,h,qW,dD5]
 have:(F.take i).length=i:=by rw [qh];omega
 rw [this]
 simp [bW8]
theorem dD4 (F:List (Sta×Bool))(k:Nat):(bW8 k F).length<=F.length:=by
 induction F generalizing k with
 |nil=>simp [bW8]
 |cons x F ih=>
  have:=ih (k+1)
  simp only [bW8]
  split<;>simp<;>omega
theorem bB5 (F:List (Sta×Bool))(i:Nat):(spk (F.take i)).length<=i:=by
 have h1:=dD4 (F.take i) 0
 have h2:(F.take i).length<=i:=by rw [qh];omega
 unfold spk
 omega
def kJ5 (F:List (Sta×Bool))(ss:List Sta)(i:Nat):List Sta:=(F.take i).map (·.1)++ss.drop i
theorem kJ3 {F:List (Sta×Bool)}{ss:List Sta}{i:Nat}{x:Sta×Bool}(h:F[i]? =some x)(hl:F.length=ss.length):(kJ5 F ss i).set i x.1=kJ5 F ss (i+1):=by
 obtain ⟨hlt,rfl⟩:=qx.1 h
 have hi:((F.take i).map (·.1)).length=i:=by simp;omega
 unfold kJ5
 rw [List.set_append_right _ _ qZ,hi,jx,qG qZ,List.set_cons_zero,qi,h,qW,ql,qJ]
 rfl
theorem kJ4 {F:List (Sta×Bool)}{ss:List Sta}{i:Nat}(hl:F.length=ss.length)(hi:i<ss.length):(kJ5 F ss i)[i]? =ss[i]?:=by
 have h1:((F.take i).map (·.1)).length=i:=by simp;omega
 unfold kJ5
 rw [Qr qZ,h1,jx,Qy]
 simp
def fJ1 (t:Nat)(D:List (List Int))(s:Syn):List (List Int):=
 D.modify ((t+s.dl.toNat)%16) fun l=>l.modify s.to.toNat fun a=>wadd a s.wt
def bK5 (W:List (Int×List Syn))(srcs:List Int):List Syn:=srcs.flatMap (bD1 W)
end Go.Gm
end
section
set_option linter.unusedVariables false
namespace Go.Gm
def mP5 (p:Par)(v:Int):Int:=max p.fl (min 1048576 (leak p v+p.bias))
def mu (p:Par)(s:Sta):Nat:=
 s.rest.toNat+(if s.v<mP5 p s.v then (1048576 - s.v).toNat else if mP5 p s.v<s.v then (s.v - p.fl).toNat else 0)
end Go.Gm
end
section
set_option linter.unusedVariables false
namespace Go.Gm
def fV2 (a b:Evt):Prop:=¬gH1 b a
theorem fZ7 {a b:Evt}:fV2 a b<->a.tick<b.tick\/(a.tick=b.tick/\a.id<=b.id):=by unfold fV2 gH1;omega
theorem fP6 (a:Evt):fV2 a a:=by rw [fZ7];omega
theorem cR9 {a b c:Evt}(h1:fV2 a b)(h2:fV2 b c):fV2 a c:=by rw [fZ7] at*;omega
theorem gT2 {a b:Evt}(h:gH1 a b):fV2 a b:=by rw [fZ7];unfold gH1 at h;omega
def HeapOk (A:List Evt):Prop:=∀i a b,0<i->A[(i - 1) / 2]? =some a->A[i]? =some b->fV2 a b
def HeapUp (A:List Evt)(j:Nat):Prop:=
 (∀i a b,0<i->i≠j->A[(i - 1) / 2]? =some a->A[i]? =some b->fV2 a b)/\
 (∀c a b,0<j->0<c->(c - 1) / 2=j->A[(j - 1) / 2]? =some a->A[c]? =some b->fV2 a b)
def HeapDn (A:List Evt)(j:Nat):Prop:=
 (∀i a b,0<i->(i - 1) / 2≠j->A[(i - 1) / 2]? =some a->A[i]? =some b->fV2 a b)/\
 (∀c a b,0<j->0<c->(c - 1) / 2=j->A[(j - 1) / 2]? =some a->A[c]? =some b->fV2 a b)
theorem gV4 {A:List Evt}{i j:Nat}{a b:Evt}(hi:A[i]? =some a)(hj:A[j]? =some b)(hne:i≠j)(k:Nat):
  ((A.set i b).set j a)[k]? =if k=j then some a else if k=i then some b else A[k]?:=by
 have h1:=(qx.1 hi).1
 have h2:=(qx.1 hj).1
 rw [qO,QH]
 by_cases e:k=j
 ·subst e;simp [h2]
 ·rw [jk (Ne.symm e),jk e,qO]
  by_cases e2:k=i
  ·subst e2;simp [h1]
  ·rw [jk (Ne.symm e2),jk e2]
theorem HeapUp.start {A:List Evt}(x:Evt)(h:HeapOk A):HeapUp (A++[x]) A.length:=by
 constructor
 ·intro i a b h0 hne h1 h2
  have hlt:i<(A++[x]).length:=(qx.1 h2).1
  simp only [qw,qR,List.length_nil] at hlt
  rw [QY qZ] at h1 h2
  exact h i a b h0 h1 h2
 ·intro c a b h0 h1 h2 h3 h4
  have hlt:c<(A++[x]).length:=(qx.1 h4).1
  simp only [qw,qR,List.length_nil] at hlt
  omega
theorem HeapUp.done {A:List Evt}{j:Nat}(h:HeapUp A j)(hd:∀a b,0<j->A[(j - 1) / 2]? =some a->A[j]? =some b->fV2 a b):HeapOk A:=by
 intro i a b h0 h1 h2
 by_cases e:i=j
 ·subst e;exact hd a b h0 h1 h2
 ·exact h.1 i a b h0 e h1 h2
theorem HeapUp.step {A:List Evt}{j:Nat}{a b:Evt}(h:HeapUp A j)(h0:0<j)(ha:A[(j - 1) / 2]? =some a)(hb:A[j]? =some b)(hlt:gH1 b a):
  HeapUp ((A.set j a).set ((j - 1) / 2) b) ((j - 1) / 2):=by
 have hne:j≠(j - 1) / 2:=by omega
 have hs:=gV4 hb ha hne
 have hba:=gT2 hlt
 constructor
 ·intro i x y hi hij h1 h2
  rw [hs] at h1 h2
  rw [jk hij] at h2
  by_cases e:i=j
  ·subst e
   rw [jw rfl] at h1 h2
   cases h1;cases h2
   exact hba
  ·rw [jk e] at h2
   by_cases e2:(i - 1) / 2=(j - 1) / 2
   ·rw [jw e2] at h1
    cases h1
    have:=h.1 i a y hi e (by rw [e2];exact ha) h2
    exact cR9 hba this
   ·rw [jk e2] at h1
    by_cases e3:(i - 1) / 2=j
    ·rw [jw e3] at h1
     cases h1
     exact h.2 i a y h0 hi e3 ha h2
    ·rw [jk e3] at h1
     exact h.1 i x y hi e h1 h2
 ·intro c x y hp hc hcj h1 h2
  rw [hs] at h1 h2
  rw [jk qZ,jk qZ] at h1
  rw [jk qZ] at h2
  by_cases e:c=j
  ·subst e
   rw [jw rfl] at h2
   cases h2
   exact h.1 ((c - 1) / 2) x a hp qZ h1 ha
  ·rw [jk e] at h2
   have g1:=h.1 ((j - 1) / 2) x a hp qZ h1 ha
   have g2:=h.1 c a y hc e (by rw [hcj];exact ha) h2
   exact cR9 g1 g2
theorem HeapDn.start {A:List Evt}{y:Evt}(h:HeapOk A)(n:Nat):HeapDn ((A.set 0 y).take n) 0:=by
 constructor
 ·intro i a b h0 hne h1 h2
  rw [Qt] at h1 h2
  split at h1
  ·split at h2
   ·rw [qO] at h1 h2
    rw [jk qZ] at h1 h2
    exact h i a b h0 h1 h2
   ·cases h2
  ·cases h1
 ·intro c a b h0 _ _ _ _;omega
theorem HeapDn.done {A:List Evt}{j:Nat}(h:HeapDn A j)(hd:∀c a b,0<c->(c - 1) / 2=j->A[j]? =some a->A[c]? =some b->fV2 a b):HeapOk A:=by
 intro i a b h0 h1 h2
 by_cases e:(i - 1) / 2=j
 ·subst e;exact hd i a b h0 rfl h1 h2
 ·exact h.1 i a b h0 e h1 h2
theorem HeapDn.step {A:List Evt}{j l:Nat}{a b:Evt}(h:HeapDn A j)(h0:0<l)(hl:(l - 1) / 2=j)(ha:A[j]? =some a)(hb:A[l]? =some b)(hlt:fV2 b a)
  (hmin:∀c y,0<c->(c - 1) / 2=j->A[c]? =some y->fV2 b y):HeapDn ((A.set j b).set l a) l:=by
 have hne:j≠l:=by omega
 have hs:=gV4 ha hb hne
 constructor
 ·intro i x y hi hij h1 h2
  rw [hs] at h1 h2
  rw [jk hij] at h1
  by_cases e:(i - 1) / 2=j
  ·rw [jw e] at h1
   cases h1
   by_cases e2:i=l
   ·subst e2;rw [jw rfl] at h2;cases h2;exact hlt
   ·rw [jk e2] at h2
    rw [jk qZ] at h2
    exact hmin i y hi e h2
  ·rw [jk e] at h1
   by_cases e2:i=l
   ·subst e2;exact absurd hl e
   ·rw [jk e2] at h2
    by_cases e3:i=j
    ·subst e3
     rw [jw rfl] at h2
     cases h2
     exact h.2 l x b hi h0 hl h1 hb
    ·rw [jk e3] at h2
     exact h.1 i x y hi e h1 h2
 ·intro c x y hp hc hcl h1 h2
  rw [hs] at h1 h2
  rw [hl,jk hne,jw rfl] at h1
  cases h1
  rw [jk qZ,jk qZ] at h2
  exact h.1 c _ y hc qZ (by rw [hcl];exact hb) h2
theorem HeapOk.min {A:List Evt}{x:Evt}(h:HeapOk A)(h0:A[0]? =some x):∀y∈A,fV2 x y:=by
 have key:∀(n i:Nat) (y:Evt),i<=n->A[i]? =some y->fV2 x y:=by
  intro n
  induction n with
  |zero=>intro i y hi hy;obtain rfl:i=0:=by omega
         rw [h0] at hy;cases hy;exact fP6 _
  |succ n ih=>
   intro i y hi hy
   by_cases e:i=0
   ·subst e;rw [h0] at hy;cases hy;exact fP6 _
   ·have hlt:i<A.length:=(qx.1 hy).1
    have hp:A[(i - 1) / 2]? =some (A[(i - 1) / 2]'qZ):=qq _
    exact cR9 (ih _ _ qZ hp) (h i _ y qZ hp hy)
 intro y hy
 obtain ⟨i,hi⟩:=jh hy
 exact key i i y (qA _) hi
end Go.Gm
end
section
set_option linter.unusedVariables false
namespace Go.Gm
theorem gP7 (a b c:Int):wadd (wadd a b) c=wadd (wadd a c) b:=by
 unfold wadd
 omega
theorem dF2 {α:Type}{f g:α->α}(h:∀a,f (g a)=g (f a)):∀(l:List α) (i j:Nat),(l.modify i f).modify j g=(l.modify j g).modify i f:=by
 intro l i j
 apply qp
 intro k
 simp only [qS]
 cases l[k]? with
 |none=>simp
 |some a=>
  by_cases h1:i=k<;>by_cases h2:j=k<;>simp [h1,h2,h]
theorem hD5 (t:Nat)(D:List (List Int))(s r:Syn):fJ1 t (fJ1 t D s) r=fJ1 t (fJ1 t D r) s:=by
 unfold fJ1
 exact dF2 (fun l=>dF2 (fun a=>gP7 a s.wt r.wt) l _ _) D _ _
theorem fP4 {α:Type}{p q:α->Bool}(h:∀a,p a=true->q a=false):∀l:List α,(l.filter p++l.filter q).Perm (l.filter fun a=>p a || q a)
 |[]=>.refl _
 |a::l=>by
  have ih:=fP4 h l
  cases hp:p a with
  |true=>simp only [List.filter_cons,hp,h a hp,Bool.true_or,if_true,QV,if_false,Qw];exact ih.cons a
  |false=>
   cases hq:q a with
   |true=>simp only [List.filter_cons,hp,hq,Bool.false_or,if_true,QV,if_false];exact List.perm_middle.trans (ih.cons a)
   |false=>simp only [List.filter_cons,hp,hq,Bool.false_or,QV,if_false];exact ih
theorem cH1 (l:List Syn):∀{srcs:List Int},srcs.Nodup->(bK5 (cJ7 l) srcs).Perm (l.filter fun s=>decide (s.frm∈srcs))
 |[],_=>by simp [bK5]
 |k::r,h=>by
  have hk:=QC.1 h
  have ih:=cH1 l hk.2
  unfold bK5 at ih ⊢
  rw [Qf,cY2]
  refine (ih.append_left _).trans ((fP4 (fun a ha=>?_) l).trans (.of_eq ?_))
  ·simp only [jy] at ha
   simp only [decide_eq_false_iff_not]
   rw [ha]
   exact hk.1
  ·congr 1
   funext a
   simp [qQ,Bool.decide_or]
end Go.Gm
end
section
set_option linter.unusedVariables false
namespace Go.Gm
def rot (t:Nat)(D:List (List Int)):List (List Int):=(List.range 16).map fun d=>(D[(t+d)%16]?).getD []
theorem fR7 (t:Nat)(D:List (List Int))(d:Nat):(rot t D)[d]? =if d<16 then some ((D[(t+d)%16]?).getD []) else none:=by
 unfold rot
 rw [qj]
 by_cases h:d<16
 ·rw [jw h,qX h];rfl
 ·rw [jk h,qf (by simp;omega)];rfl
theorem cT9 (t:Nat)(D:List (List Int)):(rot t D).length=16:=by simp [rot]
end Go.Gm
end
