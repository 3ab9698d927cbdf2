import Derived.Test.YtlbekjokdlkghaaGreatChipKnownA0
set_option linter.unusedSimpArgs false
section
namespace Go.Gm
def I64 (x:Int):Prop:= -9223372036854775808<=x/\x<=9223372036854775807
structure Par where
 lk:Int
 lv:Int
 bias:Int
 th:Int
 rk:Int
 rs:Int
 fl:Int
 rest:Int
 deriving DecidableEq
structure Par.wf (p:Par):Prop where
 lk:I64 p.lk
 lv:I64 p.lv
 bias:I64 p.bias
 th:I64 p.th
 rk:I64 p.rk
 rs:I64 p.rs
 fl:I64 p.fl
 rest:I64 p.rest
structure Sta where
 v:Int
 rest:Int
 deriving DecidableEq
def Sta.wf (s:Sta):Prop:=I64 s.v/\I64 s.rest
def leakOk (p:Par):Prop:=
 (p.lk=0/\p.lv=0)\/(p.lk=1/\1<=p.lv/\p.lv<=1048576)\/(p.lk=2/\1<=p.lv/\p.lv<=256)
def rangeOk (p:Par):Prop:=
 leakOk p/\(-1048576<=p.bias/\p.bias<=1048576)/\(-1048576<=p.fl/\p.fl<=0)/\(1<=p.th/\p.th<=1048576)/\(0<=p.rest/\p.rest<=64)/\
  ((p.rk=1/\p.rs=0)\/(p.rk=0/\p.fl<=p.rs/\p.rs<=p.th - 1))
instance (p:Par):Decidable (leakOk p):=by unfold leakOk;infer_instance
instance (p:Par):Decidable (rangeOk p):=by unfold rangeOk;infer_instance
def kindsOk (p:Par):Prop:=(0<=p.lk/\p.lk<=2)/\(0<=p.rk/\p.rk<=1)
instance (p:Par):Decidable (kindsOk p):=by unfold kindsOk;infer_instance
def chk (p:Par):Int:=if kindsOk p then (if rangeOk p then 0 else 3) else 2
theorem chk_two {p:Par}(h:¬kindsOk p):chk p=2:=by simp [chk,h]
theorem chk_three {p:Par}(h:kindsOk p)(h2:¬rangeOk p):chk p=3:=by simp [chk,h,h2]
theorem chk_zero {p:Par}(h:kindsOk p)(h2:rangeOk p):chk p=0:=by simp [chk,h,h2]
def staOk (p:Par)(s:Sta):Prop:=(p.fl<=s.v/\s.v<=1048576)/\(0<=s.rest/\s.rest<=p.rest)
instance (p:Par) (s:Sta):Decidable (staOk p s):=by unfold staOk;infer_instance
def chkS (p:Par)(s:Sta):Int:=if chk p=0 then (if staOk p s then 0 else 3) else chk p
def leak (p:Par)(v:Int):Int:=
 if p.lk=1 then (if v<0 then min 0 (v+p.lv) else max 0 (v - p.lv)) else if p.lk=2 then v - (v*p.lv).tdiv 256 else v
def vnext (p:Par)(s:Sta)(x:Int):Int:=max p.fl (min 1048576 (leak p s.v+p.bias+max (-4194304) (min 4194304 x)))
def tick (p:Par)(s:Sta)(x:Int):Sta×Bool:=
 if 0<s.rest then (⟨s.v,s.rest - 1⟩,false)
 else if vnext p s x<p.th then (⟨vnext p s x,s.rest⟩,false)
 else (⟨if p.rk=1 then vnext p s x - p.th else p.rs,p.rest⟩,true)
theorem tick_rest {p:Par}{s:Sta}{x:Int}(h:0<s.rest):tick p s x=(⟨s.v,s.rest - 1⟩,false):=by simp [tick,h]
theorem tick_low {p:Par}{s:Sta}{x:Int}{v:Int}(hv:vnext p s x=v)(h:¬0<s.rest)(h2:v<p.th):tick p s x=(⟨v,s.rest⟩,false):=by simp [tick,h,hv,h2]
theorem tick_sub {p:Par}{s:Sta}{x:Int}{v:Int}(hv:vnext p s x=v)(h:¬0<s.rest)(h2:¬v<p.th)(h3:p.rk=1):tick p s x=(⟨v - p.th,p.rest⟩,true):=by simp [tick,h,hv,h2,h3]
theorem tick_to {p:Par}{s:Sta}{x:Int}{v:Int}(hv:vnext p s x=v)(h:¬0<s.rest)(h2:¬v<p.th)(h3:¬p.rk=1):tick p s x=(⟨p.rs,p.rest⟩,true):=by simp [tick,h,hv,h2,h3]
theorem chk_eq_zero {p:Par}:chk p=0<->kindsOk p/\rangeOk p:=by
 unfold chk;split<;>(try split)<;>simp_all
structure ParOk (p:Par):Prop where
 lk:0<=p.lk/\p.lk<=2
 rk:0<=p.rk/\p.rk<=1
 leak:leakOk p
 bias: -1048576<=p.bias/\p.bias<=1048576
 fl: -1048576<=p.fl/\p.fl<=0
 th:1<=p.th/\p.th<=1048576
 rest:0<=p.rest/\p.rest<=64
 rs:(p.rk=1/\p.rs=0)\/(p.rk=0/\p.fl<=p.rs/\p.rs<=p.th - 1)
theorem good_iff {p:Par}:chk p=0<->ParOk p:=by
 rw [chk_eq_zero]
 unfold kindsOk rangeOk
 constructor
 ·rintro ⟨⟨h1,h2⟩,h3,h4,h5,h6,h7,h8⟩
  exact ⟨h1,h2,h3,h4,h5,h6,h7,h8⟩
 ·rintro ⟨h1,h2,h3,h4,h5,h6,h7,h8⟩
  exact ⟨⟨h1,h2⟩,h3,h4,h5,h6,h7,h8⟩
theorem chkS_zero {p:Par}{s:Sta}:chkS p s=0<->ParOk p/\staOk p s:=by
 unfold chkS
 rw [<-good_iff]
 split
 ·split<;>simp_all
 ·simp_all
theorem ParOk.wf {p:Par}(h:ParOk p):p.wf:=by
 obtain ⟨h1,h2,h3,h4,h5,h6,h7,h8⟩:=h
 unfold leakOk at h3
 constructor<;>unfold I64<;>omega
theorem mul_le_of {a b A B:Int}(h1: -A<=a)(h2:a<=A)(h3:0<=b)(h4:b<=B)(hA:0<=A): -(A*B)<=a*b/\a*b<=A*B:=by
 have e1:a*b<=A*b:=Int.mul_le_mul_of_nonneg_right h2 h3
 have e2:A*b<=A*B:=Int.mul_le_mul_of_nonneg_left h4 hA
 have e3: -A*b<=a*b:=Int.mul_le_mul_of_nonneg_right h1 h3
 have e4: -A*b= -(A*b):=Int.neg_mul A b
 omega
theorem share_bounds {p:Par}(hp:ParOk p)(h:p.lk=2){v:Int}(h1: -1048576<=v)(h2:v<=1048576): -268435456<=v*p.lv/\v*p.lv<=268435456:=by
 have h3:=hp.leak
 unfold leakOk at h3
 have:=mul_le_of (a:=v) (b:=p.lv) (A:=1048576) (B:=256) (by omega) (by omega) (by omega) (by omega) (by omega)
 omega
theorem tdiv256 (a:Int):(0<=a->0<=a.tdiv 256/\a.tdiv 256<=a)/\(a<=0->a<=a.tdiv 256/\a.tdiv 256<=0):=by
 constructor
 ·intro h
  rw [Int.tdiv_eq_ediv_of_nonneg h];omega
 ·intro h
  have:a= -(-a):=by omega
  rw [this,Int.neg_tdiv,Int.tdiv_eq_ediv_of_nonneg (by omega)];omega
theorem leak_bounds {p:Par}(hp:ParOk p){v:Int}(h1: -1048576<=v)(h2:v<=1048576): -268435456<=leak p v/\leak p v<=268435456:=by
 have h3:=hp.leak
 unfold leakOk at h3
 unfold leak
 split
 ·split<;>omega
 ·split
  ·rename_i h
   have h4:=share_bounds hp h h1 h2
   have h5:=tdiv256 (v*p.lv)
   rcases Int.le_total 0 v with h6|h6
   ·have h7:0<=v*p.lv:=Int.mul_nonneg h6 (by omega)
    have:=h5.1 h7
    omega
   ·have h7:v*p.lv<=0:=Int.mul_nonpos_of_nonpos_of_nonneg h6 (by omega)
    have:=h5.2 h7
    omega
  ·omega
theorem vnext_bounds {p:Par}(hp:ParOk p)(s:Sta)(x:Int):p.fl<=vnext p s x/\vnext p s x<=1048576:=by
 have:=hp.fl
 unfold vnext
 omega
theorem tick_ok {p:Par}{s:Sta}(hp:ParOk p)(hs:staOk p s)(x:Int):staOk p (tick p s x).1:=by
 have hv:=vnext_bounds hp s x
 obtain ⟨h1,h2,h3,h4,h5,h6,h7,h8⟩:=hp
 unfold staOk at*
 unfold tick
 split
 ·dsimp only;omega
 ·split
  ·dsimp only;omega
  ·dsimp only
   split<;>omega
end Go.Gm
end
section
set_option linter.unusedVariables false
namespace Go.Gm
structure Syn where
 frm:Int
 to:Int
 wt:Int
 dl:Int
 deriving DecidableEq
def Syn.wf (s:Syn):Prop:=I64 s.frm/\I64 s.to/\I64 s.wt/\I64 s.dl
structure Net where
 ps:List Par
 inputs:Int
 syns:List Syn
 deriving DecidableEq
structure Net.wf (n:Net):Prop where
 ps:∀p∈n.ps,p.wf
 inputs:I64 n.inputs
 syns:∀s∈n.syns,s.wf
structure Evt where
 tick:Int
 id:Int
 deriving DecidableEq
def Evt.wf (x:Evt):Prop:=I64 x.tick/\I64 x.id
def srcOk (n:Net)(f:Int):Prop:= -n.inputs<=f/\f<=(n.ps.length:Int) - 1
instance (n:Net) (f:Int):Decidable (srcOk n f):=by unfold srcOk;infer_instance
def synOk (n:Net)(s:Syn):Prop:=srcOk n s.frm/\(0<=s.to/\s.to<=(n.ps.length:Int) - 1)/\(-32768<=s.wt/\s.wt<=32768)/\(1<=s.dl/\s.dl<=16)
instance (n:Net) (s:Syn):Decidable (synOk n s):=by unfold synOk;infer_instance
def firstErr:List Par->Int
 |[]=>0
 |p::r=>if chk p≠0 then chk p else firstErr r
def synsOk (n:Net):List Syn->Bool
 |[]=>true
 |s::r=>if synOk n s then synsOk n r else false
def netchk (n:Net):Int:=
 if n.ps.length=0 then 2
 else if 1024<n.ps.length\/256<n.inputs\/8192<n.syns.length then 9
 else if n.inputs<0 then 3
 else if firstErr n.ps≠0 then firstErr n.ps
 else if synsOk n n.syns then 0 else 3
theorem firstErr_drop {l:List Par}{i:Nat}{p:Par}(h:l[i]? =some p)(h0:chk p=0):firstErr (l.drop i)=firstErr (l.drop (i+1)):=by
 obtain ⟨hlt,rfl⟩:=qx.1 h
 rw [qG hlt]
 simp [firstErr,h0]
theorem firstErr_err {l:List Par}{i:Nat}{p:Par}(h:l[i]? =some p)(h0:chk p≠0):firstErr (l.drop i)=chk p:=by
 obtain ⟨hlt,rfl⟩:=qx.1 h
 rw [qG hlt]
 simp [firstErr,h0]
theorem synsOk_drop {n:Net}{l:List Syn}{i:Nat}{s:Syn}(h:l[i]? =some s)(h0:synOk n s):synsOk n (l.drop i)=synsOk n (l.drop (i+1)):=by
 obtain ⟨hlt,rfl⟩:=qx.1 h
 rw [qG hlt]
 simp [synsOk,h0]
theorem synsOk_not {n:Net}{l:List Syn}{i:Nat}{s:Syn}(h:l[i]? =some s)(h0:¬synOk n s):synsOk n (l.drop i)=false:=by
 obtain ⟨hlt,rfl⟩:=qx.1 h
 rw [qG hlt]
 simp [synsOk,h0]
theorem synsOk_iff {n:Net}{l:List Syn}:synsOk n l=true<->∀s∈l,synOk n s:=by
 induction l with
 |nil=>simp [synsOk]
 |cons s r ih=>by_cases h:synOk n s<;>simp [synsOk,h,ih]
theorem firstErr_zero {l:List Par}:firstErr l=0<->∀p∈l,ParOk p:=by
 induction l with
 |nil=>simp [firstErr]
 |cons p r ih=>
  by_cases h:chk p=0
  ·simp [firstErr,h,ih,good_iff.1 h]
  ·have h':¬ParOk p:=fun hp=>h (good_iff.2 hp)
   simp [firstErr,h,h']
structure NetOk (n:Net):Prop where
 some:0<n.ps.length
 few:n.ps.length<=1024
 inputs:0<=n.inputs/\n.inputs<=256
 fewS:n.syns.length<=8192
 ps:∀p∈n.ps,ParOk p
 syns:∀s∈n.syns,synOk n s
theorem netchk_arg {n:Net}(h:n.ps.length=0):netchk n=2:=by unfold netchk;rw [jx h]
theorem netchk_many {n:Net}(h:n.ps.length≠0)(h2:1024<n.ps.length\/256<n.inputs\/8192<n.syns.length):netchk n=9:=by unfold netchk;rw [jz h,jx h2]
theorem netchk_range {n:Net}(h:n.ps.length≠0)(h2:¬(1024<n.ps.length\/256<n.inputs\/8192<n.syns.length))(h3:n.inputs<0):netchk n=3:=by unfold netchk;rw [jz h,jz h2,jx h3]
theorem netchk_par {n:Net}(h:n.ps.length≠0)(h2:¬(1024<n.ps.length\/256<n.inputs\/8192<n.syns.length))(h3:¬n.inputs<0)(h4:firstErr n.ps≠0):netchk n=firstErr n.ps:=by
 unfold netchk;rw [jz h,jz h2,jz h3,jx h4]
theorem netchk_syn {n:Net}(h:n.ps.length≠0)(h2:¬(1024<n.ps.length\/256<n.inputs\/8192<n.syns.length))(h3:¬n.inputs<0)(h4:firstErr n.ps=0):netchk n=if synsOk n n.syns then 0 else 3:=by
 unfold netchk;rw [jz h,jz h2,jz h3,jz (by simp [h4])]
theorem netchk_zero {n:Net}:netchk n=0<->NetOk n:=by
 unfold netchk
 constructor
 ·intro h
  split at h
  ·cases h
  ·split at h
   ·cases h
   ·split at h
    ·cases h
    ·split at h
     ·contradiction
     ·split at h
      ·rename_i h1 h2 h3 h4 h5
       simp only [ne_eq,Qm] at h4
       exact ⟨by omega,by omega,by omega,by omega,firstErr_zero.1 h4,synsOk_iff.1 h5⟩
      ·cases h
 ·rintro ⟨h1,h2,h3,h4,h5,h6⟩
  rw [jz (by omega),jz (by omega),jz (by omega),jz (by simpa using firstErr_zero.2 h5),jx (synsOk_iff.2 h6)]
def wireAdd:List (Int×List Syn)->Syn->List (Int×List Syn)
 |[],s=>[(s.frm,[s])]
 |x::r,s=>if x.1=s.frm then (x.1,x.2++[s])::r else x::wireAdd r s
def wire (l:List Syn):List (Int×List Syn):=l.foldl wireAdd []
def wfind:List (Int×List Syn)->Int->List Syn
 |[],_=>[]
 |x::r,k=>if x.1=k then x.2 else wfind r k
theorem wfind_add (m:List (Int×List Syn))(s:Syn)(k:Int):wfind (wireAdd m s) k=wfind m k++(if s.frm=k then [s] else []):=by
 induction m with
 |nil=>by_cases h:s.frm=k<;>simp [wireAdd,wfind,h]
 |cons x r ih=>
  obtain ⟨a,l⟩:=x
  by_cases h:a=s.frm
  ·subst h
   by_cases h2:s.frm=k
   ·simp [wireAdd,wfind,h2]
   ·simp [wireAdd,wfind,h2]
  ·by_cases h3:a=k
   ·have h2:¬s.frm=k:=fun e=>h (h3.trans e.symm)
    simp only [wireAdd,jz h,wfind,jx h3,jz h2,qC]
   ·simp only [wireAdd,jz h,wfind,jz h3,ih]
theorem wfind_wire (l:List Syn)(k:Int):wfind (wire l) k=l.filter (fun s=>s.frm=k):=by
 have:∀(l:List Syn) (m:List (Int×List Syn)),wfind (l.foldl wireAdd m) k=wfind m k++l.filter (fun s=>s.frm=k):=by
  intro l
  induction l with
  |nil=>intro m;simp
  |cons s r ih=>
   intro m
   rw [Qp,ih,wfind_add]
   by_cases h:s.frm=k<;>simp [h]
 simpa [wire,wfind] using this l []
theorem wire_take {l:List Syn}{i:Nat}{s:Syn}(h:l[i]? =some s):wire (l.take (i+1))=wireAdd (wire (l.take i)) s:=by
 obtain ⟨hlt,rfl⟩:=qx.1 h
 simp only [wire,qi,h,qW,Qx,Qp,List.foldl_nil]
def evBad (inputs limit:Int)(x:Evt):Prop:=¬(0<=x.tick/\x.tick<=limit - 1)\/¬(0<=x.id/\x.id<=inputs - 1)
instance (a b:Int) (x:Evt):Decidable (evBad a b x):=by unfold evBad;infer_instance
def evLate (p x:Evt):Prop:=x.tick<p.tick\/(x.tick=p.tick/\x.id<=p.id)
instance (p x:Evt):Decidable (evLate p x):=by unfold evLate;infer_instance
def evBehind (x:Evt):Option Evt->Prop
 |none=>False
 |some p=>evLate p x
instance (x:Evt) (p:Option Evt):Decidable (evBehind x p):=by cases p<;>(unfold evBehind;infer_instance)
def ordErr (inputs limit:Int):Option Evt->List Evt->Int
 |_,[]=>0
 |p,x::r=>if evBad inputs limit x then 3 else if evBehind x p then 2 else ordErr inputs limit (some x) r
def prevOf {α:Type}(l:List α):Nat->Option α
 |0=>none
 |i+1=>l[i]?
def evErr (inputs limit:Int)(l:List Evt):Int:=if 65536<l.length then 9 else ordErr inputs limit none l
theorem ordErr_bad {inputs limit:Int}{l:List Evt}{i:Nat}{x:Evt}{p:Option Evt}(h:l[i]? =some x)(hb:evBad inputs limit x):ordErr inputs limit p (l.drop i)=3:=by
 obtain ⟨hlt,rfl⟩:=qx.1 h
 rw [qG hlt];simp [ordErr,hb]
theorem ordErr_late {inputs limit:Int}{l:List Evt}{i:Nat}{x:Evt}{p:Option Evt}(h:l[i]? =some x)(hb:¬evBad inputs limit x)(hl:evBehind x p):ordErr inputs limit p (l.drop i)=2:=by
 obtain ⟨hlt,rfl⟩:=qx.1 h
 rw [qG hlt];simp [ordErr,hb,hl]
theorem ordErr_next {inputs limit:Int}{l:List Evt}{i:Nat}{x:Evt}{p:Option Evt}(h:l[i]? =some x)(hb:¬evBad inputs limit x)(hl:¬evBehind x p):ordErr inputs limit p (l.drop i)=ordErr inputs limit (prevOf l (i+1)) (l.drop (i+1)):=by
 have h':=h
 obtain ⟨hlt,rfl⟩:=qx.1 h
 rw [qG hlt];simp [ordErr,hb,hl,prevOf,h']
def evLt (p x:Evt):Prop:=p.tick<x.tick\/(p.tick=x.tick/\p.id<x.id)
theorem evLate_iff {p x:Evt}:¬evLate p x<->evLt p x:=by unfold evLate evLt;omega
structure EvOk (inputs limit:Int) (l:List Evt):Prop where
 few:l.length<=65536
 range:∀x∈l,(0<=x.tick/\x.tick<limit)/\(0<=x.id/\x.id<inputs)
 sorted:l.Pairwise evLt
theorem ordErr_zero {inputs limit:Int}:∀(l:List Evt) (p:Option Evt),ordErr inputs limit p l=0<->
  (∀x∈l,(0<=x.tick/\x.tick<limit)/\(0<=x.id/\x.id<inputs))/\l.Pairwise evLt/\(∀q,p=some q->∀x∈l,evLt q x)
 |[],p=>by simp [ordErr]
 |x::r,p=>by
  have ih:=ordErr_zero (inputs:=inputs) (limit:=limit) r (some x)
  unfold ordErr
  by_cases hb:evBad inputs limit x
  ·simp only [hb,if_true]
   refine ⟨fun h=>(by cases h),fun ⟨h1,_⟩=>?_⟩
   have:=h1 x (by simp)
   unfold evBad at hb
   omega
  ·simp only [hb,if_false]
   by_cases hl:evBehind x p
   ·simp only [hl,if_true]
    refine ⟨fun h=>(by cases h),fun ⟨_,_,h3⟩=>?_⟩
    cases p with
    |none=>exact hl.elim
    |some q=>exact absurd hl (evLate_iff.2 (h3 q rfl x (by simp)))
   ·simp only [hl,if_false]
    rw [ih]
    simp only [qQ,forall_eq_or_imp,List.pairwise_cons,qK,forall_eq']
    have hb':(0<=x.tick/\x.tick<limit)/\(0<=x.id/\x.id<inputs):=by unfold evBad at hb;omega
    constructor
    ·rintro ⟨h1,h2,h3⟩
     refine ⟨⟨hb',h1⟩,⟨h3,h2⟩,fun q hq=>?_⟩
     subst hq
     have hqx:evLt q x:=evLate_iff.1 hl
     refine ⟨hqx,fun y hy=>?_⟩
     have:=h3 y hy
     unfold evLt at*
     omega
    ·rintro ⟨⟨_,h1⟩,⟨h3,h2⟩,_⟩
     exact ⟨h1,h2,h3⟩
theorem evErr_zero {inputs limit:Int}{l:List Evt}:evErr inputs limit l=0<->EvOk inputs limit l:=by
 unfold evErr
 constructor
 ·intro h
  split at h
  ·cases h
  ·obtain ⟨h1,h2,_⟩:=(ordErr_zero l none).1 h
   exact ⟨by omega,h1,h2⟩
 ·rintro ⟨h1,h2,h3⟩
  rw [jz (by omega)]
  exact (ordErr_zero l none).2 ⟨h2,h3,by simp⟩
def inBad (inputs k:Int):Prop:=¬(0<=k/\k<=inputs - 1)
instance (a k:Int):Decidable (inBad a k):=by unfold inBad;infer_instance
def inBehind (k:Int):Option Int->Prop
 |none=>False
 |some p=>k<=p
instance (x:Int) (p:Option Int):Decidable (inBehind x p):=by cases p<;>(unfold inBehind;infer_instance)
def ascErr (inputs:Int):Option Int->List Int->Int
 |_,[]=>0
 |p,k::r=>if inBad inputs k then 3 else if inBehind k p then 2 else ascErr inputs (some k) r
theorem ascErr_bad {inputs:Int}{l:List Int}{i:Nat}{x:Int}{p:Option Int}(h:l[i]? =some x)(hb:inBad inputs x):ascErr inputs p (l.drop i)=3:=by
 obtain ⟨hlt,rfl⟩:=qx.1 h
 rw [qG hlt];simp [ascErr,hb]
theorem ascErr_late {inputs:Int}{l:List Int}{i:Nat}{x:Int}{p:Option Int}(h:l[i]? =some x)(hb:¬inBad inputs x)(hl:inBehind x p):ascErr inputs p (l.drop i)=2:=by
 obtain ⟨hlt,rfl⟩:=qx.1 h
 rw [qG hlt];simp [ascErr,hb,hl]
theorem ascErr_next {inputs:Int}{l:List Int}{i:Nat}{x:Int}{p:Option Int}(h:l[i]? =some x)(hb:¬inBad inputs x)(hl:¬inBehind x p):ascErr inputs p (l.drop i)=ascErr inputs (prevOf l (i+1)) (l.drop (i+1)):=by
 have h':=h
 obtain ⟨hlt,rfl⟩:=qx.1 h
 rw [qG hlt];simp [ascErr,hb,hl,prevOf,h']
def wadd (a b:Int):Int:=(a+b+9223372036854775808)%18446744073709551616 - 9223372036854775808
def fire:List Par->List Sta->List Int->List (Sta×Bool)
 |p::ps,s::ss,x::xs=>tick p s x::fire ps ss xs
 |_,_,_=>[]
def spkFrom:Nat->List (Sta×Bool)->List Int
 |_,[]=>[]
 |k,x::r=>if x.2 then (k:Int)::spkFrom (k+1) r else spkFrom (k+1) r
def spk (F:List (Sta×Bool)):List Int:=spkFrom 0 F
theorem fire_length {ps:List Par}{ss:List Sta}{xs:List Int}(h1:ss.length=ps.length)(h2:xs.length=ps.length):(fire ps ss xs).length=ps.length:=by
 induction ps generalizing ss xs with
 |nil=>cases ss<;>cases xs<;>simp_all [fire]
 |cons p ps ih=>
  cases ss with
  |nil=>simp at h1
  |cons s ss=>
   cases xs with
   |nil=>simp at h2
   |cons x xs=>simp only [fire,qR] at*;rw [ih (by omega) (by omega)]
theorem fire_get {ps:List Par}{ss:List Sta}{xs:List Int}{i:Nat}{p:Par}{s:Sta}{x:Int}(h1:ps[i]? =some p)(h2:ss[i]? =some s)(h3:xs[i]? =some x):(fire ps ss xs)[i]? =some (tick p s x):=by
 induction ps generalizing ss xs i with
 |nil=>simp at h1
 |cons q ps ih=>
  cases ss with
  |nil=>simp at h2
  |cons s' ss=>
   cases xs with
   |nil=>simp at h3
   |cons x' xs=>
    cases i with
    |zero=>simp_all [fire]
    |succ i=>simp only [fire,Qv] at*;exact ih h1 h2 h3
theorem spkFrom_append (F G:List (Sta×Bool))(k:Nat):spkFrom k (F++G)=spkFrom k F++spkFrom (k+F.length) G:=by
 induction F generalizing k with
 |nil=>simp [spkFrom]
 |cons x F ih=>
  simp only [Qw,spkFrom,qR,ih]
  have:k+1+F.length=k+(F.length+1):=by omega
  rw [this]
  split<;>simp
theorem spk_take {F:List (Sta×Bool)}{i:Nat}{x:Sta×Bool}(h:F[i]? =some x):spk (F.take (i+1))=spk (F.take i)++(if x.2 then [(i:Int)] else []):=by
 obtain ⟨hlt,rfl⟩:=qx.1 h
 unfold spk
 rw [qi,h,qW,spkFrom_append]
 have:(F.take i).length=i:=by rw [qh];omega
 rw [this]
 simp [spkFrom]
theorem spkFrom_length (F:List (Sta×Bool))(k:Nat):(spkFrom k F).length<=F.length:=by
 induction F generalizing k with
 |nil=>simp [spkFrom]
 |cons x F ih=>
  have:=ih (k+1)
  simp only [spkFrom]
  split<;>simp<;>omega
theorem spk_length (F:List (Sta×Bool))(i:Nat):(spk (F.take i)).length<=i:=by
 have h1:=spkFrom_length (F.take i) 0
 have h2:(F.take i).length<=i:=by rw [qh];omega
 unfold spk
 omega
def mids (F:List (Sta×Bool))(ss:List Sta)(i:Nat):List Sta:=(F.take i).map (·.1)++ss.drop i
theorem mids_set {F:List (Sta×Bool)}{ss:List Sta}{i:Nat}{x:Sta×Bool}(h:F[i]? =some x)(hl:F.length=ss.length):(mids F ss i).set i x.1=mids F ss (i+1):=by
 obtain ⟨hlt,rfl⟩:=qx.1 h
 have hi:((F.take i).map (·.1)).length=i:=by simp;omega
 unfold mids
 rw [List.set_append_right _ _ (by omega),hi,jq,qG (by omega),List.set_cons_zero,qi,h,qW,ql,qJ]
 rfl
theorem mids_get {F:List (Sta×Bool)}{ss:List Sta}{i:Nat}(hl:F.length=ss.length)(hi:i<ss.length):(mids F ss i)[i]? =ss[i]?:=by
 have h1:((F.take i).map (·.1)).length=i:=by simp;omega
 unfold mids
 rw [Qr (by omega),h1,jq,Qy]
 simp
def due1 (t:Nat)(D:List (List Int))(s:Syn):List (List Int):=
 D.modify ((t+s.dl.toNat)%16) fun l=>l.modify s.to.toNat fun a=>wadd a s.wt
def yields (W:List (Int×List Syn))(srcs:List Int):List Syn:=srcs.flatMap (wfind W)
end Go.Gm
end
section
set_option linter.unusedVariables false
namespace Go.Gm
def fsil (p:Par)(v:Int):Int:=max p.fl (min 1048576 (leak p v+p.bias))
def mu (p:Par)(s:Sta):Nat:=
 s.rest.toNat+(if s.v<fsil p s.v then (1048576 - s.v).toNat else if fsil p s.v<s.v then (s.v - p.fl).toNat else 0)
end Go.Gm
end
section
set_option linter.unusedVariables false
namespace Go.Gm
def evLe (a b:Evt):Prop:=¬evLt b a
theorem evLe_iff {a b:Evt}:evLe a b<->a.tick<b.tick\/(a.tick=b.tick/\a.id<=b.id):=by unfold evLe evLt;omega
theorem evLe_refl (a:Evt):evLe a a:=by rw [evLe_iff];omega
theorem evLe_trans {a b c:Evt}(h1:evLe a b)(h2:evLe b c):evLe a c:=by rw [evLe_iff] at*;omega
theorem evLe_of_lt {a b:Evt}(h:evLt a b):evLe a b:=by rw [evLe_iff];unfold evLt at h;omega
def HeapOk (A:List Evt):Prop:=∀i a b,0<i->A[(i - 1) / 2]? =some a->A[i]? =some b->evLe a b
def HeapUp (A:List Evt)(j:Nat):Prop:=
 (∀i a b,0<i->i≠j->A[(i - 1) / 2]? =some a->A[i]? =some b->evLe a b)/\
 (∀c a b,0<j->0<c->(c - 1) / 2=j->A[(j - 1) / 2]? =some a->A[c]? =some b->evLe a b)
def HeapDn (A:List Evt)(j:Nat):Prop:=
 (∀i a b,0<i->(i - 1) / 2≠j->A[(i - 1) / 2]? =some a->A[i]? =some b->evLe a b)/\
 (∀c a b,0<j->0<c->(c - 1) / 2=j->A[(j - 1) / 2]? =some a->A[c]? =some b->evLe a b)
theorem swap_get {A:List Evt}{i j:Nat}{a b:Evt}(hi:A[i]? =some a)(hj:A[j]? =some b)(hne:i≠j)(k:Nat):
  ((A.set i b).set j a)[k]? =if k=j then some a else if k=i then some b else A[k]?:=by
 have h1:=(qx.1 hi).1
 have h2:=(qx.1 hj).1
 rw [qO,QF]
 by_cases e:k=j
 ·subst e;simp [h2]
 ·rw [jz (Ne.symm e),jz e,qO]
  by_cases e2:k=i
  ·subst e2;simp [h1]
  ·rw [jz (Ne.symm e2),jz e2]
theorem HeapUp.start {A:List Evt}(x:Evt)(h:HeapOk A):HeapUp (A++[x]) A.length:=by
 constructor
 ·intro i a b h0 hne h1 h2
  have hlt:i<(A++[x]).length:=(qx.1 h2).1
  simp only [qw,qR,List.length_nil] at hlt
  rw [List.getElem?_append_left (by omega)] at h1 h2
  exact h i a b h0 h1 h2
 ·intro c a b h0 h1 h2 h3 h4
  have hlt:c<(A++[x]).length:=(qx.1 h4).1
  simp only [qw,qR,List.length_nil] at hlt
  omega
theorem HeapUp.done {A:List Evt}{j:Nat}(h:HeapUp A j)(hd:∀a b,0<j->A[(j - 1) / 2]? =some a->A[j]? =some b->evLe a b):HeapOk A:=by
 intro i a b h0 h1 h2
 by_cases e:i=j
 ·subst e;exact hd a b h0 h1 h2
 ·exact h.1 i a b h0 e h1 h2
theorem HeapUp.step {A:List Evt}{j:Nat}{a b:Evt}(h:HeapUp A j)(h0:0<j)(ha:A[(j - 1) / 2]? =some a)(hb:A[j]? =some b)(hlt:evLt b a):
  HeapUp ((A.set j a).set ((j - 1) / 2) b) ((j - 1) / 2):=by
 have hne:j≠(j - 1) / 2:=by omega
 have hs:=swap_get hb ha hne
 have hba:=evLe_of_lt hlt
 constructor
 ·intro i x y hi hij h1 h2
  rw [hs] at h1 h2
  rw [jz hij] at h2
  by_cases e:i=j
  ·subst e
   rw [jx rfl] at h1 h2
   cases h1;cases h2
   exact hba
  ·rw [jz e] at h2
   by_cases e2:(i - 1) / 2=(j - 1) / 2
   ·rw [jx e2] at h1
    cases h1
    have:=h.1 i a y hi e (by rw [e2];exact ha) h2
    exact evLe_trans hba this
   ·rw [jz e2] at h1
    by_cases e3:(i - 1) / 2=j
    ·rw [jx e3] at h1
     cases h1
     exact h.2 i a y h0 hi e3 ha h2
    ·rw [jz e3] at h1
     exact h.1 i x y hi e h1 h2
 ·intro c x y hp hc hcj h1 h2
  rw [hs] at h1 h2
  rw [jz (by omega),jz (by omega)] at h1
  rw [jz (by omega)] at h2
  by_cases e:c=j
  ·subst e
   rw [jx rfl] at h2
   cases h2
   exact h.1 ((c - 1) / 2) x a hp (by omega) h1 ha
  ·rw [jz e] at h2
   have g1:=h.1 ((j - 1) / 2) x a hp (by omega) h1 ha
   have g2:=h.1 c a y hc e (by rw [hcj];exact ha) h2
   exact evLe_trans g1 g2
theorem HeapDn.start {A:List Evt}{y:Evt}(h:HeapOk A)(n:Nat):HeapDn ((A.set 0 y).take n) 0:=by
 constructor
 ·intro i a b h0 hne h1 h2
  rw [Qt] at h1 h2
  split at h1
  ·split at h2
   ·rw [qO] at h1 h2
    rw [jz (by omega)] at h1 h2
    exact h i a b h0 h1 h2
   ·cases h2
  ·cases h1
 ·intro c a b h0 _ _ _ _;omega
theorem HeapDn.done {A:List Evt}{j:Nat}(h:HeapDn A j)(hd:∀c a b,0<c->(c - 1) / 2=j->A[j]? =some a->A[c]? =some b->evLe a b):HeapOk A:=by
 intro i a b h0 h1 h2
 by_cases e:(i - 1) / 2=j
 ·subst e;exact hd i a b h0 rfl h1 h2
 ·exact h.1 i a b h0 e h1 h2
theorem HeapDn.step {A:List Evt}{j l:Nat}{a b:Evt}(h:HeapDn A j)(h0:0<l)(hl:(l - 1) / 2=j)(ha:A[j]? =some a)(hb:A[l]? =some b)(hlt:evLe b a)
  (hmin:∀c y,0<c->(c - 1) / 2=j->A[c]? =some y->evLe b y):HeapDn ((A.set j b).set l a) l:=by
 have hne:j≠l:=by omega
 have hs:=swap_get ha hb hne
 constructor
 ·intro i x y hi hij h1 h2
  rw [hs] at h1 h2
  rw [jz hij] at h1
  by_cases e:(i - 1) / 2=j
  ·rw [jx e] at h1
   cases h1
   by_cases e2:i=l
   ·subst e2;rw [jx rfl] at h2;cases h2;exact hlt
   ·rw [jz e2] at h2
    rw [jz (by omega)] at h2
    exact hmin i y hi e h2
  ·rw [jz e] at h1
   by_cases e2:i=l
   ·subst e2;exact absurd hl e
   ·rw [jz e2] at h2
    by_cases e3:i=j
    ·subst e3
     rw [jx rfl] at h2
     cases h2
     exact h.2 l x b hi h0 hl h1 hb
    ·rw [jz e3] at h2
     exact h.1 i x y hi e h1 h2
 ·intro c x y hp hc hcl h1 h2
  rw [hs] at h1 h2
  rw [hl,jz hne,jx rfl] at h1
  cases h1
  rw [jz (by omega),jz (by omega)] at h2
  exact h.1 c _ y hc (by omega) (by rw [hcl];exact hb) h2
theorem HeapOk.min {A:List Evt}{x:Evt}(h:HeapOk A)(h0:A[0]? =some x):∀y∈A,evLe x y:=by
 have key:∀(n i:Nat) (y:Evt),i<=n->A[i]? =some y->evLe x y:=by
  intro n
  induction n with
  |zero=>intro i y hi hy;obtain rfl:i=0:=by omega
         rw [h0] at hy;cases hy;exact evLe_refl _
  |succ n ih=>
   intro i y hi hy
   by_cases e:i=0
   ·subst e;rw [h0] at hy;cases hy;exact evLe_refl _
   ·have hlt:i<A.length:=(qx.1 hy).1
    have hp:A[(i - 1) / 2]? =some (A[(i - 1) / 2]'(by omega)):=qq _
    exact evLe_trans (ih _ _ (by omega) hp) (h i _ y (by omega) hp hy)
 intro y hy
 obtain ⟨i,hi⟩:=jy hy
 exact key i i y (qA _) hi
end Go.Gm
end
section
set_option linter.unusedVariables false
namespace Go.Gm
theorem wadd_comm3 (a b c:Int):wadd (wadd a b) c=wadd (wadd a c) b:=by
 unfold wadd
 omega
theorem modify_comm {α:Type}{f g:α->α}(h:∀a,f (g a)=g (f a)):∀(l:List α) (i j:Nat),(l.modify i f).modify j g=(l.modify j g).modify i f:=by
 intro l i j
 apply qp
 intro k
 simp only [qS]
 cases l[k]? with
 |none=>simp
 |some a=>
  by_cases h1:i=k<;>by_cases h2:j=k<;>simp [h1,h2,h]
theorem due1_comm (t:Nat)(D:List (List Int))(s r:Syn):due1 t (due1 t D s) r=due1 t (due1 t D r) s:=by
 unfold due1
 exact modify_comm (fun l=>modify_comm (fun a=>wadd_comm3 a s.wt r.wt) l _ _) D _ _
theorem filter_or {α:Type}{p q:α->Bool}(h:∀a,p a=true->q a=false):∀l:List α,(l.filter p++l.filter q).Perm (l.filter fun a=>p a || q a)
 |[]=>.refl _
 |a::l=>by
  have ih:=filter_or h l
  cases hp:p a with
  |true=>simp only [List.filter_cons,hp,h a hp,Bool.true_or,if_true,QV,if_false,Qw];exact ih.cons a
  |false=>
   cases hq:q a with
   |true=>simp only [List.filter_cons,hp,hq,Bool.false_or,if_true,QV,if_false];exact List.perm_middle.trans (ih.cons a)
   |false=>simp only [List.filter_cons,hp,hq,Bool.false_or,QV,if_false];exact ih
theorem yields_perm (l:List Syn):∀{srcs:List Int},srcs.Nodup->(yields (wire l) srcs).Perm (l.filter fun s=>decide (s.frm∈srcs))
 |[],_=>by simp [yields]
 |k::r,h=>by
  have hk:=QN.1 h
  have ih:=yields_perm l hk.2
  unfold yields at ih ⊢
  rw [Qf,wfind_wire]
  refine (ih.append_left _).trans ((filter_or (fun a ha=>?_) l).trans (.of_eq ?_))
  ·simp only [jv] at ha
   simp only [decide_eq_false_iff_not]
   rw [ha]
   exact hk.1
  ·congr 1
   funext a
   simp [qQ,Bool.decide_or]
end Go.Gm
end
section
set_option linter.unusedVariables false
namespace Go.Gm
def rot (t:Nat)(D:List (List Int)):List (List Int):=(List.range 16).map fun d=>(D[(t+d)%16]?).getD []
theorem rot_get (t:Nat)(D:List (List Int))(d:Nat):(rot t D)[d]? =if d<16 then some ((D[(t+d)%16]?).getD []) else none:=by
 unfold rot
 rw [qj]
 by_cases h:d<16
 ·rw [jx h,qX h];rfl
 ·rw [jz h,qf (by simp;omega)];rfl
theorem rot_length (t:Nat)(D:List (List Int)):(rot t D).length=16:=by simp [rot]
end Go.Gm
end
