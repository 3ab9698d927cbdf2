import Derived.Test.YtlbekjokdlkghaaGreatChipMovesVb
import Derived.Test.YtlbekjokdlkghaaGreatChipMovesGa
set_option linter.unusedVariables false
set_option linter.unusedSimpArgs false
set_option maxHeartbeats 4000000
section
namespace Go.Gm
open Go Go.Vx
def mK5 (d:Nat):Ent:=.obj d (.deferred (some []))
theorem _root_.Go.Vx.AtS.nil_eq {H S:HP}{Z:HP->HP}(h:AtS H S Z):S=[]->H=Z []:=by
 induction h with
 |here=>intro e;subst e;rfl
 |last=>intro e;subst e;rfl
 |there h ih=>intro e;show _::_=_::_;rw [ih e]
 |app h ih=>intro e;show _++_=_++_;rw [ih e]
theorem _root_.Go.Vx.AtS.uncons {H X:HP}{Z:HP->HP}(h:AtS H X Z):∀{x:Ent} {S:HP},X=x::S->∃u r Z',At H x u r/\AtS r S Z'/\Z' []=Z []:=by
 induction h with
 |@here S' R=>intro x S e;subst e;exact ⟨_,S++R,fun S'=>S'++R,.here,.here,rfl⟩
 |last=>intro x S e;subst e;exact ⟨_,S,fun S'=>S',.here,.last,rfl⟩
 |@there H0 S' Z0 z h ih=>
  intro x S e
  obtain ⟨u,r,Z',h1,h2,h3⟩:=ih e
  exact ⟨_,z::r,fun S'=>z::Z' S',.there h1,.there h2,by show z::Z' []=z::Z0 [];rw [h3]⟩
 |@app H0 S' Z0 A h ih=>
  intro x S e
  obtain ⟨u,r,Z',h1,h2,h3⟩:=ih e
  exact ⟨_,A++r,fun S'=>A++Z' S',At.app A h1,.app h2,by show A++Z' []=A++Z0 [];rw [h3]⟩
theorem lJ2 {DD:List Nat}{H:HP}{k:HP->Prop}(h:unE (DD.map dZ3) H k):unE (DD.map dZ3) H k:=h
theorem fW5:∀{DD:List Nat} {H:HP} {Z:HP->HP} {k:HP->Prop},AtS H (DD.map mK5) Z->k (Z [])->unE (DD.map dZ3) H k
 |[],H,Z,k,h,hk=>by
  rw [<-h.nil_eq rfl] at hk
  exact hk
 |d::DD,H,Z,k,h,hk=>by
  obtain ⟨u,r,Z',h1,h2,h3⟩:=h.uncons rfl
  show VUn H d _
  refine .mk h1 ?_
  rw [<-h3] at hk
  exact fW5 h2 hk
theorem _root_.Go.Vx.VCall.le {P:Program}{w0:World}{M:List Nat}{H H':HP}{f:Nat}{args:List Value}{K:Value->HP->Prop}(hl:HLe H' H)(h:VCall P w0 M H' f args K):VCall P w0 M H f args K:=by
 cases h with
 |mk h=>exact .mk fun w hw=>h w (hw.le hl)
theorem _root_.Go.Vx.VYield.weak {P:Program}{w0:World}{M:List Nat}{H H':HP}{l:Nat}{args:List Value}{K:Value->HP->Prop}(hl:HLe H' H)(h:VYield P w0 M H' l args K):VYield P w0 M H l args K:=by
 cases h with
 |mk h=>exact .mk fun w hw=>h w (hw.le hl)
theorem _root_.Go.Vx.VYield.mono {P:Program}{w0:World}{M:List Nat}{H:HP}{l:Nat}{args:List Value}{K K':Value->HP->Prop}(h:VYield P w0 M H l args K)(hk:∀r H',K r H'->K' r H'):VYield P w0 M H l args K':=by
 cases h with
 |mk h=>
  refine .mk fun w hw=>?_
  obtain ⟨fn,tmps,asg,bd,h1,h2⟩:=h w hw
  exact ⟨fn,tmps,asg,bd,h1,h2.mono fun e w' ⟨v,H',g1,g2,g3⟩=>⟨v,H',g1,g2,hk v H' g3⟩⟩
theorem _root_.Go.Vx.VYield.hle {P:Program}{w0:World}{M:List Nat}{H:HP}{l:Nat}{args:List Value}{K:Value->HP->Prop}(h:VYield P w0 M H l args fun v H'=>∃H'',HLe H'' H'/\K v H''):VYield P w0 M H l args K:=by
 cases h with
 |mk h=>
  refine .mk fun w hw=>?_
  obtain ⟨fn,tmps,asg,bd,h1,h2⟩:=h w hw
  exact ⟨fn,tmps,asg,bd,h1,h2.mono fun e w' ⟨v,H',g1,g2,H'',g3,g4⟩=>⟨v,H'',g1,g2.le g3,g4⟩⟩
theorem _root_.Go.Vx.VCall.hle {P:Program}{w0:World}{M:List Nat}{H:HP}{f:Nat}{args:List Value}{K:Value->HP->Prop}(h:VCall P w0 M H f args fun v H'=>∃H'',HLe H'' H'/\K v H''):VCall P w0 M H f args K:=by
 obtain ⟨h⟩:=h
 exact .mk fun w hw=>(h w hw).mono fun e w' ⟨v,H',he,hw',H'',hl,hk⟩=>⟨v,H'',he,hw'.le hl,hk⟩
theorem lX4 {a b:Nat}(ha:a<2 ^ 63)(hb:b<2 ^ 63):cP5 .or .i64 (a:Int) (b:Int)=((a ||| b:Nat):Int):=by
 unfold cP5
 dsimp only
 have hbb:IntKind.i64.bits=64:=rfl
 have h1:(BitVec.ofInt IntKind.i64.bits (a:Int) ||| BitVec.ofInt IntKind.i64.bits (b:Int)).toNat=a ||| b:=by
  rw [BitVec.toNat_or]
  have e1:(BitVec.ofInt IntKind.i64.bits (a:Int)).toNat=a:=by rw [BitVec.toNat_ofInt,hbb];omega
  have e2:(BitVec.ofInt IntKind.i64.bits (b:Int)).toNat=b:=by rw [BitVec.toNat_ofInt,hbb];omega
  rw [e1,e2]
 have h2:a ||| b<2 ^ 63:=Nat.or_lt_two_pow ha hb
 rw [h1,wrap_i64 qZ qZ]
theorem _root_.Go.Vx.VBit.or {a b:Int}{k:Int->Prop}(ha:0<=a/\a<=4611686018427387904)(hb:0<=b/\b<=4611686018427387904)(hk:k ((a.toNat ||| b.toNat:Nat):Int)):VBit .or .i64 a b k:=by
 refine .mk ?_
 have:=lX4 (a:=a.toNat) (b:=b.toNat) qZ qZ
 rw [Ql ha.1,Ql hb.1] at this
 rw [this]
 exact hk
end Go.Gm
end

section
namespace Go.Gm
structure Spc where
 wide:Int
 high:Int
 room:Int
 deriving DecidableEq
structure SpcOk (s:Spc):Prop where
 wide:1<=s.wide/\s.wide<=8
 high:1<=s.high/\s.high<=8
 room:1<=s.room/\s.room<=64
def cX3 (s:Spc):Int:=if (1<=s.wide/\s.wide<=8)/\(1<=s.high/\s.high<=8)/\1<=s.room/\s.room<=64 then 0 else 3
theorem bN4 {s:Spc}:cX3 s=0<->SpcOk s:=by
 unfold cX3
 constructor
 ·intro h
  split at h
  ·rename_i h1;exact ⟨h1.1,h1.2.1,h1.2.2⟩
  ·cases h
 ·rintro ⟨h1,h2,h3⟩
  rw [jw ⟨h1,h2,h3⟩]
def bY2 (W r t:Int):Int:=if r%W<t%W then 1 else if t%W<r%W then 4 else if r / W<t / W then 2 else if t / W<r / W then 8 else 16
def bZ8 (W r o:Int):Int:=if o=1 then r+1 else if o=2 then r+W else if o=4 then r - 1 else if o=8 then r - W else r
def bG0 (W r t:Int):Nat:=(r%W - t%W).natAbs+(r / W - t / W).natAbs
def hK7 (W:Int):Nat->Int->Int->List Int
 |0,r,_=>[r]
 |n+1,r,t=>if r=t then [r] else r::hK7 W n (bZ8 W r (bY2 W r t)) t
def rte (W r t:Int):List Int:=hK7 W (bG0 W r t) r t
structure At2 (W r x y:Int):Prop where
 eq:r=W*y+x
 col:r%W=x
 row:r / W=y
 x0:0<=x
 x1:x<W
theorem at2 {W:Int}(hW:0<W)(r:Int):∃x y,At2 W r x y:=
 ⟨r%W,r / W,by have:=Int.emod_add_mul_ediv r W;omega,rfl,rfl,Int.emod_nonneg _ qZ,Int.emod_lt_of_pos _ hW⟩
theorem cH0 {W x y:Int}(h0:0<=x)(h1:x<W):At2 W (W*y+x) x y:=by
 refine ⟨rfl,?_,?_,h0,h1⟩
 ·rw [Int.add_comm,Int.add_mul_emod_self_left,Int.emod_eq_of_lt h0 h1]
 ·rw [Int.add_comm,Int.add_mul_ediv_left _ _ qZ,Int.ediv_eq_zero_of_lt h0 h1,Int.zero_add]
theorem At2.inj {W r t x y:Int}(h1:At2 W r x y)(h2:At2 W t x y):r=t:=by rw [h1.eq,h2.eq]
theorem bG7 {W H r x y:Int}(h:At2 W r x y):(0<=r/\r<W*H)<->(0<=y/\y<H):=by
 have hW:0<W:=by have:=h.x0;have:=h.x1;omega
 rw [h.eq]
 constructor
 ·rintro ⟨h1,h2⟩
  refine ⟨?_,?_⟩
  ·refine Int.not_lt.1 fun hy=>?_
   have:W*y<=W*(-1):=Int.mul_le_mul_of_nonneg_left qZ qZ
   have:=h.x1
   omega
  ·refine Int.not_le.1 fun hy=>?_
   have:W*H<=W*y:=Int.mul_le_mul_of_nonneg_left hy qZ
   have:=h.x0
   omega
 ·rintro ⟨h1,h2⟩
  have g1:0<=W*y:=Int.mul_nonneg qZ h1
  have g2:W*(y+1)<=W*H:=Int.mul_le_mul_of_nonneg_left qZ qZ
  rw [Int.mul_add] at g2
  have:=h.x0
  have:=h.x1
  omega
theorem cZ3 {W r t x y a b:Int}(h1:At2 W r x y)(h2:At2 W t a b):bG0 W r t=(x - a).natAbs+(y - b).natAbs:=by
 unfold bG0
 rw [h1.col,h1.row,h2.col,h2.row]
theorem cT2 {W r t x y a b:Int}(h1:At2 W r x y)(h2:At2 W t a b):bY2 W r t=if x<a then 1 else if a<x then 4 else if y<b then 2 else if b<y then 8 else 16:=by
 unfold bY2
 rw [h1.col,h1.row,h2.col,h2.row]
theorem hZ1 {W r t x y a b:Int}(h1:At2 W r x y)(h2:At2 W t a b):∃x' y',At2 W (bZ8 W r (bY2 W r t)) x' y'/\
  ((x<a/\x'=x+1/\y'=y)\/(a<x/\x'=x - 1/\y'=y)\/(x=a/\y<b/\x'=x/\y'=y+1)\/(x=a/\b<y/\x'=x/\y'=y - 1)\/(x=a/\y=b/\x'=x/\y'=y)):=by
 have hx0:=h1.x0
 have hx1:=h1.x1
 have ha0:=h2.x0
 have ha1:=h2.x1
 have hr:=h1.eq
 rw [cT2 h1 h2]
 by_cases c1:x<a
 ·rw [jw c1]
  refine ⟨x+1,y,?_,.inl ⟨c1,rfl,rfl⟩⟩
  have e:bZ8 W r 1=W*y+(x+1):=by unfold bZ8;rw [jw rfl];omega
  rw [e]
  exact cH0 qZ qZ
 rw [jk c1]
 by_cases c2:a<x
 ·rw [jw c2]
  refine ⟨x - 1,y,?_,.inr (.inl ⟨c2,rfl,rfl⟩)⟩
  have e:bZ8 W r 4=W*y+(x - 1):=by unfold bZ8;simp;omega
  rw [e]
  exact cH0 qZ qZ
 rw [jk c2]
 by_cases c3:y<b
 ·rw [jw c3]
  refine ⟨x,y+1,?_,.inr (.inr (.inl ⟨by omega,c3,rfl,rfl⟩))⟩
  have e:bZ8 W r 2=W*(y+1)+x:=by unfold bZ8;simp;rw [Int.mul_add];omega
  rw [e]
  exact cH0 qZ qZ
 rw [jk c3]
 by_cases c4:b<y
 ·rw [jw c4]
  refine ⟨x,y - 1,?_,.inr (.inr (.inr (.inl ⟨by omega,c4,rfl,rfl⟩)))⟩
  have e:bZ8 W r 8=W*(y - 1)+x:=by unfold bZ8;simp;rw [Int.mul_sub];omega
  rw [e]
  exact cH0 qZ qZ
 rw [jk c4]
 refine ⟨x,y,?_,.inr (.inr (.inr (.inr ⟨by omega,by omega,rfl,rfl⟩)))⟩
 have e:bZ8 W r 16=r:=by unfold bZ8;simp
 rw [e]
 exact h1
theorem bG6 {W r t:Int}(hW:0<W):bG0 W r t=0<->r=t:=by
 obtain ⟨x,y,h1⟩:=at2 hW r
 obtain ⟨a,b,h2⟩:=at2 hW t
 rw [cZ3 h1 h2]
 constructor
 ·intro h
  have e1:x=a:=by omega
  have e2:y=b:=by omega
  subst e1;subst e2
  exact h1.inj h2
 ·rintro rfl
  have e1:=h1.col.symm.trans h2.col
  have e2:=h1.row.symm.trans h2.row
  omega
theorem bL9 {W r t:Int}(hW:0<W)(hne:r≠t):bG0 W (bZ8 W r (bY2 W r t)) t+1=bG0 W r t:=by
 obtain ⟨x,y,h1⟩:=at2 hW r
 obtain ⟨a,b,h2⟩:=at2 hW t
 obtain ⟨x',y',h3,h4⟩:=hZ1 h1 h2
 rw [cZ3 h1 h2,cZ3 h3 h2]
 rcases h4 with h4|h4|h4|h4|⟨e1,e2,_⟩
 ·omega
 ·omega
 ·omega
 ·omega
 ·subst e1;subst e2
  exact absurd (h1.inj h2) hne
theorem dN8 {W H r t:Int}(hW:0<W)(hr:0<=r/\r<W*H)(ht:0<=t/\t<W*H):0<=bZ8 W r (bY2 W r t)/\bZ8 W r (bY2 W r t)<W*H:=by
 obtain ⟨x,y,h1⟩:=at2 hW r
 obtain ⟨a,b,h2⟩:=at2 hW t
 obtain ⟨x',y',h3,h4⟩:=hZ1 h1 h2
 rw [bG7 h1] at hr
 rw [bG7 h2] at ht
 rw [bG7 h3]
 omega
theorem hD6 {W H r t:Int}(hW:0<W)(hr:0<=r/\r<W*H)(ht:0<=t/\t<W*H):(bG0 W r t:Int)<=W+H - 2:=by
 obtain ⟨x,y,h1⟩:=at2 hW r
 obtain ⟨a,b,h2⟩:=at2 hW t
 rw [bG7 h1] at hr
 rw [bG7 h2] at ht
 rw [cZ3 h1 h2]
 have:=h1.x0;have:=h1.x1;have:=h2.x0;have:=h2.x1
 omega
theorem cY6 (W r t:Int):bY2 W r t=1\/bY2 W r t=2\/bY2 W r t=4\/bY2 W r t=8\/bY2 W r t=16:=by
 unfold bY2
 split
 ·exact .inl rfl
 ·split
  ·exact .inr (.inr (.inl rfl))
  ·split
   ·exact .inr (.inl rfl)
   ·split
    ·exact .inr (.inr (.inr (.inl rfl)))
    ·exact .inr (.inr (.inr (.inr rfl)))
theorem cY5 {W r t:Int}(hW:0<W):bY2 W r t=16<->r=t:=by
 obtain ⟨x,y,h1⟩:=at2 hW r
 obtain ⟨a,b,h2⟩:=at2 hW t
 rw [cT2 h1 h2]
 constructor
 ·intro h
  have e1:x=a:=by
   by_cases c1:x<a
   ·rw [jw c1] at h;cases h
   ·rw [jk c1] at h
    by_cases c2:a<x
    ·rw [jw c2] at h;cases h
    ·omega
  have e2:y=b:=by
   rw [jk qZ,jk qZ] at h
   by_cases c1:y<b
   ·rw [jw c1] at h;cases h
   ·rw [jk c1] at h
    by_cases c2:b<y
    ·rw [jw c2] at h;cases h
    ·omega
  subst e1;subst e2
  exact h1.inj h2
 ·rintro rfl
  have e1:=h1.col.symm.trans h2.col
  have e2:=h1.row.symm.trans h2.row
  rw [jk qZ,jk qZ,jk qZ,jk qZ]
theorem cQ8 (W t:Int)(hW:0<W):rte W t t=[t]:=by
 unfold rte
 rw [(bG6 hW).2 rfl]
 rfl
theorem cQ7 {W r t:Int}(hW:0<W)(hne:r≠t):rte W r t=r::rte W (bZ8 W r (bY2 W r t)) t:=by
 unfold rte
 rw [<-bL9 hW hne,hK7,jk hne]
theorem dJ1 {W r t:Int}(hW:0<W):∃l,rte W r t=r::l:=by
 by_cases h:r=t
 ·subst h;exact ⟨[],cQ8 W r hW⟩
 ·exact ⟨_,cQ7 hW h⟩
theorem cM0 {W H:Int}(hW:0<W){t:Int}(ht:0<=t/\t<W*H):∀(n:Nat) (r:Int),bG0 W r t=n->(0<=r/\r<W*H)->∀q∈rte W r t,0<=q/\q<W*H
 |0,r,h,hr=>by
  rw [(bG6 hW).1 h,cQ8 W t hW]
  intro q hq
  rw [qt] at hq
  subst hq;exact ht
 |n+1,r,h,hr=>by
  have hne:r≠t:=fun e=>by rw [(bG6 hW).2 e] at h;cases h
  have hd:=bL9 hW hne
  rw [cQ7 hW hne]
  intro q hq
  rcases qQ.1 hq with rfl|hq
  ·exact hr
  ·exact cM0 hW ht n _ qZ (dN8 hW hr ht) q hq
def bor (a b:Int):Int:=((a.toNat ||| b.toNat:Nat):Int)
def bH9 (x b:Int):Prop:=x.toNat&&&b.toNat≠0
instance (x b:Int):Decidable (bH9 x b):=by unfold bH9;infer_instance
theorem kW3 (a b c:Int):bH9 (bor a b) c<->bH9 a c\/bH9 b c:=by
 unfold bH9 bor
 rw [jf,Nat.and_or_distrib_right]
 constructor
 ·intro h
  by_cases h1:a.toNat&&&c.toNat=0
  ·rw [h1,Nat.zero_or] at h;exact .inr h
  ·exact .inl h1
 ·intro h h2
  have:=Nat.or_eq_zero_iff.1 h2
  rcases h with h|h
  ·exact h this.1
  ·exact h this.2
theorem bM5 (c:Int):¬bH9 0 c:=by simp [bH9]
def bC8 (b:Int):Prop:=b=1\/b=2\/b=4\/b=8\/b=16
theorem kW2 {a b:Int}(ha:bC8 a)(hb:bC8 b):bH9 a b<->a=b:=by
 unfold bC8 at ha hb
 rcases ha with rfl|rfl|rfl|rfl|rfl<;>rcases hb with rfl|rfl|rfl|rfl|rfl<;>decide
theorem lM8 {a b:Int}(ha:0<=a/\a<32)(hb:0<=b/\b<32):0<=bor a b/\bor a b<32:=by
 unfold bor
 have h1:a.toNat<2 ^ 5:=by omega
 have h2:b.toNat<2 ^ 5:=by omega
 have:=Nat.or_lt_two_pow h1 h2
 omega
def stepT (W t:Int)(out:List Int)(r:Int):List Int:=out.set r.toNat (bor (out[r.toNat]?.getD 0) (bY2 W r t))
def fC4 (W src:Int)(out:List Int)(t:Int):List Int:=(rte W src t).foldl (stepT W t) out
def dV7 (W:Int)(n:Nat)(src:Int)(ts:List Int):List Int:=ts.foldl (fC4 W src) (List.replicate n 0)
theorem cL2 (W t:Int)(out:List Int)(r:Int):(stepT W t out r).length=out.length:=QH ..
theorem bR3 (W t:Int):∀(l:List Int) (out:List Int),(l.foldl (stepT W t) out).length=out.length
 |[],_=>rfl
 |r::l,out=>by rw [Qp,bR3 W t l,cL2]
theorem cW5 (W src:Int):∀(ts:List Int) (out:List Int),(ts.foldl (fC4 W src) out).length=out.length
 |[],_=>rfl
 |t::ts,out=>by rw [Qp,cW5 W src ts];exact bR3 W t _ out
theorem bW2 (W:Int)(n:Nat)(src:Int)(ts:List Int):(dV7 W n src ts).length=n:=by
 unfold dV7
 rw [cW5,Qn]
def bF7 (out:List Int):Prop:=∀x∈out,0<=x/\x<32
theorem hQ3 (W r t:Int):0<=bY2 W r t/\bY2 W r t<32:=by
 have:=cY6 W r t
 omega
theorem hL7 {W t:Int}{out:List Int}(h:bF7 out)(r:Int):bF7 (stepT W t out r):=by
 intro x hx
 rcases Qq hx with hx|rfl
 ·exact h x hx
 ·refine lM8 ?_ (hQ3 W r t)
  cases hg:out[r.toNat]? with
  |none=>simp
  |some y=>exact h y (qz hg)
theorem fZ2 {W t:Int}:∀(l:List Int) {out:List Int},bF7 out->bF7 (l.foldl (stepT W t) out)
 |[],_,h=>h
 |r::l,_,h=>fZ2 l (hL7 h r)
theorem fZ1 {W src:Int}:∀(ts:List Int) {out:List Int},bF7 out->bF7 (ts.foldl (fC4 W src) out)
 |[],_,h=>h
 |t::ts,_,h=>fZ1 ts (fZ2 _ h)
theorem tree_ok (W:Int)(n:Nat)(src:Int)(ts:List Int):bF7 (dV7 W n src ts):=
 fZ1 ts fun x hx=>by rw [QM hx];omega
def hB6 (out:List Int)(r b:Int):Prop:=bH9 (out[r.toNat]?.getD 0) b
theorem hZ2 {W t:Int}{out:List Int}{r q b:Int}(hq:0<=q)(hr:0<=r/\r.toNat<out.length)(hb:bC8 b):hB6 (stepT W t out r) q b<->hB6 out q b\/(q=r/\bY2 W r t=b):=by
 unfold hB6 stepT
 by_cases h:q=r
 ·subst h
  rw [QZ hr.2,qY,kW3,kW2 (cY6 W q t) hb]
  simp
 ·rw [List.getElem?_set_ne qZ]
  simp [h]
theorem fB9 {W t b:Int}(hb:bC8 b){q:Int}(hq:0<=q):∀(l:List Int) {out:List Int},(∀r∈l,0<=r/\r.toNat<out.length)->(hB6 (l.foldl (stepT W t) out) q b<->hB6 out q b\/(q∈l/\bY2 W q t=b))
 |[],out,_=>by simp
 |r::l,out,h=>by
  rw [Qp,fB9 hb hq l (fun x hx=>by rw [cL2];exact h x (qu _ hx)),hZ2 hq (h r qg) hb,qQ]
  constructor
  ·rintro ((h1|⟨rfl,h2⟩)|⟨h1,h2⟩)
   ·exact .inl h1
   ·exact .inr ⟨.inl rfl,h2⟩
   ·exact .inr ⟨.inr h1,h2⟩
  ·rintro (h1|⟨rfl|h1,h2⟩)
   ·exact .inl (.inl h1)
   ·exact .inl (.inr ⟨rfl,h2⟩)
   ·exact .inr ⟨h1,h2⟩
theorem fB8 {W H src b:Int}(hW:0<W)(hs:0<=src/\src<W*H)(hb:bC8 b){q:Int}(hq:0<=q):∀(ts:List Int) {out:List Int},out.length=(W*H).toNat->(∀t∈ts,0<=t/\t<W*H)->
  (hB6 (ts.foldl (fC4 W src) out) q b<->hB6 out q b\/∃t∈ts,q∈rte W src t/\bY2 W q t=b)
 |[],out,_,_=>by simp
 |t::ts,out,hl,h=>by
  have ht:=h t qg
  rw [Qp,fB8 hW hs hb hq ts (by unfold fC4;rw [bR3];exact hl) (fun x hx=>h x (qu _ hx))]
  unfold fC4
  rw [fB9 hb hq _ (fun r hr=>by have:=cM0 hW ht _ src rfl hs r hr;omega)]
  constructor
  ·rintro ((h1|⟨h1,h2⟩)|⟨u,h1,h2⟩)
   ·exact .inl h1
   ·exact .inr ⟨t,qg,h1,h2⟩
   ·exact .inr ⟨u,qu _ h1,h2⟩
  ·rintro (h1|⟨u,h1,h2⟩)
   ·exact .inl (.inl h1)
   ·rcases qQ.1 h1 with rfl|h1
    ·exact .inl (.inr h2)
    ·exact .inr ⟨u,h1,h2⟩
theorem dS8 {W H src b:Int}(hW:0<W)(hs:0<=src/\src<W*H)(hb:bC8 b){q:Int}(hq:0<=q){ts:List Int}(h:∀t∈ts,0<=t/\t<W*H):
  hB6 (dV7 W (W*H).toNat src ts) q b<->∃t∈ts,q∈rte W src t/\bY2 W q t=b:=by
 unfold dV7
 rw [fB8 hW hs hb hq ts (Qn ..) h]
 constructor
 ·rintro (h1|h1)
  ·exfalso
   unfold hB6 at h1
   cases hg:(List.replicate (W*H).toNat (0:Int))[q.toNat]? with
   |none=>rw [hg] at h1;exact bM5 _ h1
   |some y=>
    rw [hg,QM (qz hg)] at h1
    exact bM5 _ h1
  ·exact h1
 ·exact .inr
def cX5 (x:Int):Nat:=([1,2,4,8]:List Int).countP fun b=>decide (bH9 x b)
def bK7 (tree:List Int):Nat:=(tree.map cX5).sum
def gY3 (r:Nat)(x:Int):List (Int×Int):=(([1,2,4,8,16]:List Int).filter fun b=>decide (bH9 x b)).map fun b=>((r:Int),b)
def gN4 (tree:List Int):List (Int×Int):=(tree.zipIdx.map fun x=>gY3 x.2 x.1).flatten
end Go.Gm
end

section
namespace Go.Gm
structure Chp where
 mesh:Spc
 nr:Int
 sy:Int
 en:Int
 bits:Int
 dead:List Int
def cZ4 (n:Int):List Int->List Int->Int
 |_,[]=>0
 |pre,k::r=>if¬(0<=k/\k<=n - 1) then 3 else if k∈pre then 5 else cZ4 n (pre++[k]) r
def gR7 (C:Chp):Prop:=(1<=C.nr/\C.nr<=64)/\(1<=C.sy/\C.sy<=4096)/\(1<=C.en/\C.en<=1024)/\(2<=C.bits/\C.bits<=16)
instance (C:Chp):Decidable (gR7 C):=by unfold gR7;infer_instance
def dZ5 (C:Chp):Int:=if cX3 C.mesh≠0 then 3 else if¬gR7 C then 3 else cZ4 (C.mesh.wide*C.mesh.high) [] C.dead
structure ChpOk (C:Chp):Prop where
 mesh:SpcOk C.mesh
 nr:1<=C.nr/\C.nr<=64
 sy:1<=C.sy/\C.sy<=4096
 en:1<=C.en/\C.en<=1024
 bits:2<=C.bits/\C.bits<=16
 dead:(∀k∈C.dead,0<=k/\k<C.mesh.wide*C.mesh.high)/\C.dead.Nodup
theorem gT7 {n:Int}{l:List Int}{i:Nat}{k:Int}(h:l[i]? =some k)(h1:0<=k/\k<=n - 1)(h2:k∉l.take i):cZ4 n (l.take i) (l.drop i)=cZ4 n (l.take (i+1)) (l.drop (i+1)):=by
 obtain ⟨hlt,rfl⟩:=qx.1 h
 rw [qG hlt,cZ4,jk qZ,jk h2,qi,h]
 rfl
theorem hD9 {n:Int}{l:List Int}{i:Nat}{k:Int}(h:l[i]? =some k)(h1:¬(0<=k/\k<=n - 1)):cZ4 n (l.take i) (l.drop i)=3:=by
 obtain ⟨hlt,rfl⟩:=qx.1 h
 rw [qG hlt,cZ4,jw h1]
theorem gT8 {n:Int}{l:List Int}{i:Nat}{k:Int}(h:l[i]? =some k)(h1:0<=k/\k<=n - 1)(h2:k∈l.take i):cZ4 n (l.take i) (l.drop i)=5:=by
 obtain ⟨hlt,rfl⟩:=qx.1 h
 rw [qG hlt,cZ4,jk qZ,jw h2]
theorem hD8 {n:Int}{l:List Int}{i:Nat}(h:l.length<=i):cZ4 n (l.take i) (l.drop i)=0:=by
 rw [Qi h];rfl
theorem dR7 {n:Int}:∀(r pre:List Int),cZ4 n pre r=0->(∀k∈pre,0<=k/\k<n)->pre.Nodup->(∀k∈pre++r,0<=k/\k<n)/\(pre++r).Nodup
 |[],pre,_,h1,h2=>by rw [qC];exact ⟨h1,h2⟩
 |k::r,pre,h,h1,h2=>by
  rw [cZ4] at h
  split at h
  ·cases h
  ·split at h
   ·cases h
   ·rename_i g1 g2
    have:=dR7 r (pre++[k]) h (fun x hx=>by
     rcases qH.1 hx with hx|hx
     ·exact h1 x hx
     ·rw [qt] at hx;subst hx;omega) (Qe.2 ⟨h2,by simp,fun a ha b hb e=>by rw [qt] at hb;subst hb;subst e;exact g2 ha⟩)
    rw [qJ,List.singleton_append] at this
    exact this
theorem gR8 {C:Chp}(h:dZ5 C=0):ChpOk C:=by
 unfold dZ5 at h
 split at h
 ·cases h
 ·rename_i h1
  split at h
  ·cases h
  ·rename_i h2
   have h3:=Qm.1 h2
   exact ⟨bN4.1 (Qm.1 h1),h3.1,h3.2.1,h3.2.2.1,h3.2.2.2,by simpa using dR7 C.dead [] h oU List.nodup_nil⟩
def bX1 (C:Chp):Nat:=(C.mesh.wide*C.mesh.high).toNat
theorem bX6 {C:Chp}(h:ChpOk C):(bX1 C:Int)=C.mesh.wide*C.mesh.high/\1<=bX1 C/\bX1 C<=64:=by
 obtain ⟨w1,w2⟩:=h.mesh.wide
 obtain ⟨g1,g2⟩:=h.mesh.high
 have h1:1*1<=C.mesh.wide*C.mesh.high:=Int.mul_le_mul w1 g1 qZ qZ
 have h2:C.mesh.wide*C.mesh.high<=8*8:=Int.mul_le_mul w2 g2 qZ qZ
 unfold bX1
 omega
def bG1 (N:Net)(f:Int):Int:=if f<0 then (N.ps.length:Int) - 1 - f else f
def planE (N:Net)(C:Chp):Int:=if bG3 N≠0 then bG3 N else if dZ5 C≠0 then dZ5 C else if 256<(N.ps.length:Int)+N.inputs then 9 else 0
structure PlanOk (N:Net) (C:Chp):Prop where
 net:NetOk N
 chip:ChpOk C
 few:(N.ps.length:Int)+N.inputs<=256
theorem cR1 {N:Net}{C:Chp}(h:planE N C=0):PlanOk N C:=by
 unfold planE at h
 split at h
 ·omega
 ·rename_i h1
  split at h
  ·omega
  ·rename_i h2
   split at h
   ·cases h
   ·exact ⟨bJ4.1 qZ,gR8 qZ,by omega⟩
def bV2 (N:Net):Nat:=N.ps.length+N.inputs.toNat
theorem bL5 {N:Net}(hN:NetOk N){s:Syn}(hs:s∈N.syns):0<=bG1 N s.frm/\bG1 N s.frm<bV2 N:=by
 have h:=(hN.syns s hs).1
 have hi:=hN.inputs
 unfold cT4 at h
 unfold bG1 bV2
 split<;>omega
def gS7 (N:Net)(key:Int)(acc:List Int)(s:Syn):List Int:=if bG1 N s.frm=key/\s.to∉acc then acc++[s.to] else acc
def cK1 (N:Net)(l:List Syn)(key:Int):List Int:=l.foldl (gS7 N key) []
def gL1 (N:Net)(to:Int)(acc:List Int)(s:Syn):List Int:=if s.to=to/\bG1 N s.frm∉acc then acc++[bG1 N s.frm] else acc
def gL0 (N:Net)(l:List Syn)(to:Int):List Int:=l.foldl (gL1 N to) []
def fY8 (l:List Syn)(i:Int):Nat:=l.countP fun s=>decide (s.to=i)
theorem dR1 {α β:Type}{f:β->α->β}{b:β}{l:List α}{i:Nat}{x:α}(h:l[i]? =some x):(l.take (i+1)).foldl f b=f ((l.take i).foldl f b) x:=by
 rw [qi,h,qW,Qx];rfl
theorem hG0 {N:Net}{key t:Int}:∀(l:List Syn) (acc:List Int),t∈l.foldl (gS7 N key) acc<->t∈acc\/∃s∈l,bG1 N s.frm=key/\s.to=t
 |[],acc=>by simp
 |s::l,acc=>by
  rw [Qp,hG0 l]
  have h1:t∈gS7 N key acc s<->t∈acc\/(bG1 N s.frm=key/\s.to=t):=by
   unfold gS7
   split
   ·rename_i h
    rw [qH,qt]
    constructor
    ·rintro (h1|rfl)
     ·exact .inl h1
     ·exact .inr ⟨h.1,rfl⟩
    ·rintro (h1|⟨_,rfl⟩)
     ·exact .inl h1
     ·exact .inr rfl
   ·rename_i h
    constructor
    ·exact .inl
    ·rintro (h1|⟨h1,rfl⟩)
     ·exact h1
     ·exact jg fun hn=>h ⟨h1,hn⟩
  rw [h1]
  constructor
  ·rintro ((h|h)|⟨u,hu,h⟩)
   ·exact .inl h
   ·exact .inr ⟨s,qg,h⟩
   ·exact .inr ⟨u,qu _ hu,h⟩
  ·rintro (h|⟨u,hu,h⟩)
   ·exact .inl (.inl h)
   ·rcases qQ.1 hu with rfl|hu
    ·exact .inl (.inr h)
    ·exact .inr ⟨u,hu,h⟩
theorem cG1 {N:Net}{key t:Int}{l:List Syn}:t∈cK1 N l key<->∃s∈l,bG1 N s.frm=key/\s.to=t:=by
 unfold cK1;rw [hG0];simp
theorem hG2 {N:Net}{to k:Int}:∀(l:List Syn) (acc:List Int),k∈l.foldl (gL1 N to) acc<->k∈acc\/∃s∈l,s.to=to/\bG1 N s.frm=k
 |[],acc=>by simp
 |s::l,acc=>by
  rw [Qp,hG2 l]
  have h1:k∈gL1 N to acc s<->k∈acc\/(s.to=to/\bG1 N s.frm=k):=by
   unfold gL1
   split
   ·rename_i h
    rw [qH,qt]
    constructor
    ·rintro (h1|rfl)
     ·exact .inl h1
     ·exact .inr ⟨h.1,rfl⟩
    ·rintro (h1|⟨_,rfl⟩)
     ·exact .inl h1
     ·exact .inr rfl
   ·rename_i h
    constructor
    ·exact .inl
    ·rintro (h1|⟨h1,rfl⟩)
     ·exact h1
     ·exact jg fun hn=>h ⟨h1,hn⟩
  rw [h1]
  constructor
  ·rintro ((h|h)|⟨u,hu,h⟩)
   ·exact .inl h
   ·exact .inr ⟨s,qg,h⟩
   ·exact .inr ⟨u,qu _ hu,h⟩
  ·rintro (h|⟨u,hu,h⟩)
   ·exact .inl (.inl h)
   ·rcases qQ.1 hu with rfl|hu
    ·exact .inl (.inr h)
    ·exact .inr ⟨u,hu,h⟩
theorem kJ9 {N:Net}{to k:Int}{l:List Syn}:k∈gL0 N l to<->∃s∈l,s.to=to/\bG1 N s.frm=k:=by
 unfold gL0;rw [hG2];simp
theorem fT0 {N:Net}{key:Int}:∀(l:List Syn) (acc:List Int),(l.foldl (gS7 N key) acc).length<=acc.length+l.length
 |[],acc=>by simp
 |s::l,acc=>by
  have:=fT0 (N:=N) (key:=key) l (gS7 N key acc s)
  have h2:(gS7 N key acc s).length<=acc.length+1:=by unfold gS7;split<;>simp
  rw [Qp,qR]
  omega
theorem hB8 {N:Net}{to:Int}:∀(l:List Syn) (acc:List Int),(l.foldl (gL1 N to) acc).length<=acc.length+l.length
 |[],acc=>by simp
 |s::l,acc=>by
  have:=hB8 (N:=N) (to:=to) l (gL1 N to acc s)
  have h2:(gL1 N to acc s).length<=acc.length+1:=by unfold gL1;split<;>simp
  rw [Qp,qR]
  omega
theorem hK5 {l:List Syn}{i:Nat}{s:Syn}(h:l[i]? =some s)(k:Int):fY8 (l.take (i+1)) k=fY8 (l.take i) k+if s.to=k then 1 else 0:=by
 unfold fY8
 rw [qi,h,qW,List.countP_append]
 by_cases hk:s.to=k<;>simp [hk]
def cQ4 (cores:List Int)(k:Int):Nat:=cores.countP fun c=>decide (c=k)
def dP8 (l:List Syn)(cores:List Int)(k:Int):Nat:=l.countP fun s=>decide (0<=s.to/\cores[s.to.toNat]? =some k)
theorem dV3 (cores:List Int)(c k:Int):cQ4 (cores++[c]) k=cQ4 cores k+if c=k then 1 else 0:=by
 unfold cQ4
 rw [List.countP_append]
 by_cases h:c=k<;>simp [h]
theorem hQ0 (l:List Syn)(cores:List Int)(c k:Int):dP8 l (cores++[c]) k=dP8 l cores k+if c=k then fY8 l cores.length else 0:=by
 unfold dP8 fY8
 induction l with
 |nil=>simp
 |cons s l ih=>
  rw [List.countP_cons,List.countP_cons,List.countP_cons,ih]
  have e:(0<=s.to/\(cores++[c])[s.to.toNat]? =some k)<->(0<=s.to/\cores[s.to.toNat]? =some k)\/(s.to=(cores.length:Int)/\c=k):=by
   by_cases h0:0<=s.to
   ·by_cases h1:s.to.toNat<cores.length
    ·rw [QY h1]
     constructor
     ·exact .inl
     ·rintro (h|h)
      ·exact h
      ·omega
    ·rw [Qr qZ,qf (l:=cores) qZ]
     by_cases h2:s.to=(cores.length:Int)
     ·rw [h2];simp
     ·rw [qf (by simp;omega)]
      simp [h2]
   ·constructor
    ·rintro ⟨h,_⟩;exact absurd h h0
    ·rintro (⟨h,_⟩|⟨h,_⟩)
     ·exact absurd h h0
     ·omega
  simp only [jy]
  have hx:¬((0<=s.to/\cores[s.to.toNat]? =some k)/\s.to=(cores.length:Int)):=by
   rintro ⟨⟨_,h1⟩,h2⟩
   have:=(qx.1 h1).1
   omega
  by_cases hc:c=k
  ·rw [jw hc]
   by_cases h1:0<=s.to/\cores[s.to.toNat]? =some k
   ·rw [jw (e.2 (.inl h1)),jw h1,jk (fun h=>hx ⟨h1,h⟩)]
    rw [jw hc];omega
   ·by_cases h2:s.to=(cores.length:Int)
    ·rw [jw (e.2 (.inr ⟨h2,hc⟩)),jk h1,jw h2,jw hc];omega
    ·rw [jk (fun h=>(e.1 h).elim h1 fun h=>h2 h.1),jk h1,jk h2,jw hc];omega
  ·rw [jk hc]
   by_cases h1:0<=s.to/\cores[s.to.toNat]? =some k
   ·rw [jw (e.2 (.inl h1)),jw h1,jk hc]
   ·rw [jk (fun h=>(e.1 h).elim h1 fun h=>hc h.2),jk h1,jk hc]
def cR5 (C:Chp)(l:List Syn)(cores:List Int):Prop:=∀k:Nat,k<bX1 C->(cQ4 cores k:Int)<=C.nr/\(dP8 l cores k:Int)<=C.sy
def bT5 (C:Chp):List Int->Int
 |[]=>0
 |k::r=>if¬(0<=k/\k<=C.mesh.wide*C.mesh.high - 1) then 3 else if k∈C.dead then 25 else bT5 C r
instance (C:Chp) (l:List Syn) (cores:List Int):Decidable (cR5 C l cores):=by unfold cR5;exact Nat.decidableBallLT _ _
def gS1 (N:Net)(C:Chp)(cores:List Int):Int:=
 if planE N C≠0 then planE N C else if cores.length≠N.ps.length then 13 else if bT5 C cores≠0 then bT5 C cores else if¬cR5 C N.syns cores then 15 else 0
structure AsgOk (N:Net) (C:Chp) (cores:List Int):Prop where
 plan:PlanOk N C
 len:cores.length=N.ps.length
 core:∀k∈cores,(0<=k/\k<C.mesh.wide*C.mesh.high)/\k∉C.dead
 fits:cR5 C N.syns cores
theorem cG5 {C:Chp}:∀{l:List Int},bT5 C l=0<->∀k∈l,(0<=k/\k<C.mesh.wide*C.mesh.high)/\k∉C.dead
 |[]=>by simp [bT5]
 |k::r=>by
  rw [bT5]
  constructor
  ·intro h
   split at h
   ·cases h
   ·split at h
    ·cases h
    ·rename_i h1 h2
     intro x hx
     rcases qQ.1 hx with rfl|hx
     ·exact ⟨by omega,h2⟩
     ·exact cG5.1 h x hx
  ·intro h
   have hk:=h k qg
   rw [jk qZ,jk hk.2]
   exact cG5.2 fun x hx=>h x (qu _ hx)
theorem gR1 {C:Chp}{l:List Int}{i:Nat}{k:Int}(h:l[i]? =some k)(h1:0<=k/\k<=C.mesh.wide*C.mesh.high - 1)(h2:k∉C.dead):bT5 C (l.drop i)=bT5 C (l.drop (i+1)):=by
 obtain ⟨hlt,rfl⟩:=qx.1 h
 rw [qG hlt,bT5,jk qZ,jk h2]
theorem hM1 {C:Chp}{l:List Int}{i:Nat}{k:Int}(h:l[i]? =some k)(h1:¬(0<=k/\k<=C.mesh.wide*C.mesh.high - 1)):bT5 C (l.drop i)=3:=by
 obtain ⟨hlt,rfl⟩:=qx.1 h
 rw [qG hlt,bT5,jw h1]
theorem gR2 {C:Chp}{l:List Int}{i:Nat}{k:Int}(h:l[i]? =some k)(h1:0<=k/\k<=C.mesh.wide*C.mesh.high - 1)(h2:k∈C.dead):bT5 C (l.drop i)=25:=by
 obtain ⟨hlt,rfl⟩:=qx.1 h
 rw [qG hlt,bT5,jk qZ,jw h2]
theorem fM8 {N:Net}{C:Chp}{cores:List Int}(h:gS1 N C cores=0):AsgOk N C cores:=by
 unfold gS1 at h
 split at h
 ·omega
 ·rename_i h1
  split at h
  ·cases h
  ·rename_i h2
   split at h
   ·omega
   ·rename_i h3
    split at h
    ·cases h
    ·rename_i h4
     exact ⟨cR1 qZ,by omega,cG5.1 qZ,Qm.1 h4⟩
def bX7 (N:Net)(C:Chp)(cores:List Int)(key:Int):List Int:=
 ((List.range (bX1 C)).map fun (k:Nat)=>(k:Int)).filter fun k=>decide (∃s∈N.syns,bG1 N s.frm=key/\cores[s.to.toNat]? =some k)
def bJ2 (N:Net)(cores:List Int)(key:Int):Int:=if key<N.ps.length then cores[key.toNat]?.getD 0 else 0
def bQ5 (N:Net)(C:Chp)(cores:List Int)(key:Int):List Int:=dV7 C.mesh.wide (bX1 C) (bJ2 N cores key) (bX7 N C cores key)
def bX0 (N:Net):List Int:=((List.range (bV2 N)).map fun (k:Nat)=>(k:Int)).filter fun k=>decide (∃s∈N.syns,bG1 N s.frm=k)
def bM9 (N:Net)(C:Chp)(cores:List Int):Nat:=((bX0 N).map fun k=>bK7 (bQ5 N C cores k)).sum
end Go.Gm
end
