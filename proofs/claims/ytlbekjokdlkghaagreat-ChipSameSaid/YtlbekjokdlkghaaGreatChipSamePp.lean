import Derived.Test.YtlbekjokdlkghaaGreatChipSameVb
import Derived.Test.YtlbekjokdlkghaaGreatChipSameGa
set_option linter.unusedVariables false
set_option linter.unusedSimpArgs false
set_option maxHeartbeats 4000000
section
namespace Go.Gm
open Go Go.Vx
def defE (d:Nat):Ent:=.obj d (.deferred (some []))
theorem _root_.Go.Vx.AtS.nil_eq {H S:HP}{Z:HP->HP}(h:AtS H S Z):S=[]->H=Z []:=by
 induction h with
 |here=>intro e;subst e;rfl
 |last=>intro e;subst e;rfl
 |there h ih=>intro e;show _::_=_::_;rw [ih e]
 |app h ih=>intro e;show _++_=_++_;rw [ih e]
theorem _root_.Go.Vx.AtS.uncons {H X:HP}{Z:HP->HP}(h:AtS H X Z):∀{x:Ent} {S:HP},X=x::S->∃u r Z',At H x u r/\AtS r S Z'/\Z' []=Z []:=by
 induction h with
 |@here S' R=>intro x S e;subst e;exact ⟨_,S++R,fun S'=>S'++R,.here,.here,rfl⟩
 |last=>intro x S e;subst e;exact ⟨_,S,fun S'=>S',.here,.last,rfl⟩
 |@there H0 S' Z0 z h ih=>
  intro x S e
  obtain ⟨u,r,Z',h1,h2,h3⟩:=ih e
  exact ⟨_,z::r,fun S'=>z::Z' S',.there h1,.there h2,by show z::Z' []=z::Z0 [];rw [h3]⟩
 |@app H0 S' Z0 A h ih=>
  intro x S e
  obtain ⟨u,r,Z',h1,h2,h3⟩:=ih e
  exact ⟨_,A++r,fun S'=>A++Z' S',At.app A h1,.app h2,by show A++Z' []=A++Z0 [];rw [h3]⟩
theorem unE_is {DD:List Nat}{H:HP}{k:HP->Prop}(h:unE (DD.map markV) H k):unE (DD.map markV) H k:=h
theorem unE_marks:∀{DD:List Nat} {H:HP} {Z:HP->HP} {k:HP->Prop},AtS H (DD.map defE) Z->k (Z [])->unE (DD.map markV) H k
 |[],H,Z,k,h,hk=>by
  rw [<-h.nil_eq rfl] at hk
  exact hk
 |d::DD,H,Z,k,h,hk=>by
  obtain ⟨u,r,Z',h1,h2,h3⟩:=h.uncons rfl
  show VUn H d _
  refine .mk h1 ?_
  rw [<-h3] at hk
  exact unE_marks h2 hk
theorem _root_.Go.Vx.VCall.le {P:Program}{w0:World}{M:List Nat}{H H':HP}{f:Nat}{args:List Value}{K:Value->HP->Prop}(hl:HLe H' H)(h:VCall P w0 M H' f args K):VCall P w0 M H f args K:=by
 cases h with
 |mk h=>exact .mk fun w hw=>h w (hw.le hl)
theorem _root_.Go.Vx.VYield.weak {P:Program}{w0:World}{M:List Nat}{H H':HP}{l:Nat}{args:List Value}{K:Value->HP->Prop}(hl:HLe H' H)(h:VYield P w0 M H' l args K):VYield P w0 M H l args K:=by
 cases h with
 |mk h=>exact .mk fun w hw=>h w (hw.le hl)
theorem _root_.Go.Vx.VYield.mono {P:Program}{w0:World}{M:List Nat}{H:HP}{l:Nat}{args:List Value}{K K':Value->HP->Prop}(h:VYield P w0 M H l args K)(hk:∀r H',K r H'->K' r H'):VYield P w0 M H l args K':=by
 cases h with
 |mk h=>
  refine .mk fun w hw=>?_
  obtain ⟨fn,tmps,asg,bd,h1,h2⟩:=h w hw
  exact ⟨fn,tmps,asg,bd,h1,h2.mono fun e w' ⟨v,H',g1,g2,g3⟩=>⟨v,H',g1,g2,hk v H' g3⟩⟩
theorem _root_.Go.Vx.VYield.hle {P:Program}{w0:World}{M:List Nat}{H:HP}{l:Nat}{args:List Value}{K:Value->HP->Prop}(h:VYield P w0 M H l args fun v H'=>∃H'',HLe H'' H'/\K v H''):VYield P w0 M H l args K:=by
 cases h with
 |mk h=>
  refine .mk fun w hw=>?_
  obtain ⟨fn,tmps,asg,bd,h1,h2⟩:=h w hw
  exact ⟨fn,tmps,asg,bd,h1,h2.mono fun e w' ⟨v,H',g1,g2,H'',g3,g4⟩=>⟨v,H'',g1,g2.le g3,g4⟩⟩
theorem _root_.Go.Vx.VCall.hle {P:Program}{w0:World}{M:List Nat}{H:HP}{f:Nat}{args:List Value}{K:Value->HP->Prop}(h:VCall P w0 M H f args fun v H'=>∃H'',HLe H'' H'/\K v H''):VCall P w0 M H f args K:=by
 obtain ⟨h⟩:=h
 exact .mk fun w hw=>(h w hw).mono fun e w' ⟨v,H',he,hw',H'',hl,hk⟩=>⟨v,H'',he,hw'.le hl,hk⟩
theorem bits_or {a b:Nat}(ha:a<2 ^ 63)(hb:b<2 ^ 63):bitsI .or .i64 (a:Int) (b:Int)=((a ||| b:Nat):Int):=by
 unfold bitsI
 dsimp only
 have hbb:IntKind.i64.bits=64:=rfl
 have h1:(BitVec.ofInt IntKind.i64.bits (a:Int) ||| BitVec.ofInt IntKind.i64.bits (b:Int)).toNat=a ||| b:=by
  rw [BitVec.toNat_or]
  have e1:(BitVec.ofInt IntKind.i64.bits (a:Int)).toNat=a:=by rw [BitVec.toNat_ofInt,hbb];omega
  have e2:(BitVec.ofInt IntKind.i64.bits (b:Int)).toNat=b:=by rw [BitVec.toNat_ofInt,hbb];omega
  rw [e1,e2]
 have h2:a ||| b<2 ^ 63:=Nat.or_lt_two_pow ha hb
 rw [h1,wrap_i64 qZ qZ]
theorem _root_.Go.Vx.VBit.or {a b:Int}{k:Int->Prop}(ha:0<=a/\a<=4611686018427387904)(hb:0<=b/\b<=4611686018427387904)(hk:k ((a.toNat ||| b.toNat:Nat):Int)):VBit .or .i64 a b k:=by
 refine .mk ?_
 have:=bits_or (a:=a.toNat) (b:=b.toNat) qZ qZ
 rw [Ql ha.1,Ql hb.1] at this
 rw [this]
 exact hk
end Go.Gm
end

section
namespace Go.Gm
structure Spc where
 wide:Int
 high:Int
 room:Int
 deriving DecidableEq
structure SpcOk (s:Spc):Prop where
 wide:1<=s.wide/\s.wide<=8
 high:1<=s.high/\s.high<=8
 room:1<=s.room/\s.room<=64
def meshE (s:Spc):Int:=if (1<=s.wide/\s.wide<=8)/\(1<=s.high/\s.high<=8)/\1<=s.room/\s.room<=64 then 0 else 3
theorem meshE_zero {s:Spc}:meshE s=0<->SpcOk s:=by
 unfold meshE
 constructor
 ·intro h
  split at h
  ·rename_i h1;exact ⟨h1.1,h1.2.1,h1.2.2⟩
  ·cases h
 ·rintro ⟨h1,h2,h3⟩
  rw [jk ⟨h1,h2,h3⟩]
def turnM (W r t:Int):Int:=if r%W<t%W then 1 else if t%W<r%W then 4 else if r / W<t / W then 2 else if t / W<r / W then 8 else 16
def nextM (W r o:Int):Int:=if o=1 then r+1 else if o=2 then r+W else if o=4 then r - 1 else if o=8 then r - W else r
def distM (W r t:Int):Nat:=(r%W - t%W).natAbs+(r / W - t / W).natAbs
def routeM (W:Int):Nat->Int->Int->List Int
 |0,r,_=>[r]
 |n+1,r,t=>if r=t then [r] else r::routeM W n (nextM W r (turnM W r t)) t
def rte (W r t:Int):List Int:=routeM W (distM W r t) r t
structure At2 (W r x y:Int):Prop where
 eq:r=W*y+x
 col:r%W=x
 row:r / W=y
 x0:0<=x
 x1:x<W
theorem at2 {W:Int}(hW:0<W)(r:Int):∃x y,At2 W r x y:=
 ⟨r%W,r / W,by have:=Int.emod_add_mul_ediv r W;omega,rfl,rfl,Int.emod_nonneg _ (by omega),Int.emod_lt_of_pos _ hW⟩
theorem at2_of {W x y:Int}(h0:0<=x)(h1:x<W):At2 W (W*y+x) x y:=by
 refine ⟨rfl,?_,?_,h0,h1⟩
 ·rw [Int.add_comm,Int.add_mul_emod_self_left,Int.emod_eq_of_lt h0 h1]
 ·rw [Int.add_comm,Int.add_mul_ediv_left _ _ (by omega),Int.ediv_eq_zero_of_lt h0 h1,Int.zero_add]
theorem At2.inj {W r t x y:Int}(h1:At2 W r x y)(h2:At2 W t x y):r=t:=by rw [h1.eq,h2.eq]
theorem at2_range {W H r x y:Int}(h:At2 W r x y):(0<=r/\r<W*H)<->(0<=y/\y<H):=by
 have hW:0<W:=by have:=h.x0;have:=h.x1;omega
 rw [h.eq]
 constructor
 ·rintro ⟨h1,h2⟩
  refine ⟨?_,?_⟩
  ·refine Int.not_lt.1 fun hy=>?_
   have:W*y<=W*(-1):=Int.mul_le_mul_of_nonneg_left (by omega) (by omega)
   have:=h.x1
   omega
  ·refine Int.not_le.1 fun hy=>?_
   have:W*H<=W*y:=Int.mul_le_mul_of_nonneg_left hy (by omega)
   have:=h.x0
   omega
 ·rintro ⟨h1,h2⟩
  have g1:0<=W*y:=Int.mul_nonneg (by omega) h1
  have g2:W*(y+1)<=W*H:=Int.mul_le_mul_of_nonneg_left (by omega) (by omega)
  rw [Int.mul_add] at g2
  have:=h.x0
  have:=h.x1
  omega
theorem dist_at {W r t x y a b:Int}(h1:At2 W r x y)(h2:At2 W t a b):distM W r t=(x - a).natAbs+(y - b).natAbs:=by
 unfold distM
 rw [h1.col,h1.row,h2.col,h2.row]
theorem turn_at {W r t x y a b:Int}(h1:At2 W r x y)(h2:At2 W t a b):turnM W r t=if x<a then 1 else if a<x then 4 else if y<b then 2 else if b<y then 8 else 16:=by
 unfold turnM
 rw [h1.col,h1.row,h2.col,h2.row]
theorem step_at {W r t x y a b:Int}(h1:At2 W r x y)(h2:At2 W t a b):∃x' y',At2 W (nextM W r (turnM W r t)) x' y'/\
  ((x<a/\x'=x+1/\y'=y)\/(a<x/\x'=x - 1/\y'=y)\/(x=a/\y<b/\x'=x/\y'=y+1)\/(x=a/\b<y/\x'=x/\y'=y - 1)\/(x=a/\y=b/\x'=x/\y'=y)):=by
 have hx0:=h1.x0
 have hx1:=h1.x1
 have ha0:=h2.x0
 have ha1:=h2.x1
 have hr:=h1.eq
 rw [turn_at h1 h2]
 by_cases c1:x<a
 ·rw [jk c1]
  refine ⟨x+1,y,?_,.inl ⟨c1,rfl,rfl⟩⟩
  have e:nextM W r 1=W*y+(x+1):=by unfold nextM;rw [jk rfl];omega
  rw [e]
  exact at2_of (by omega) (by omega)
 rw [jv c1]
 by_cases c2:a<x
 ·rw [jk c2]
  refine ⟨x - 1,y,?_,.inr (.inl ⟨c2,rfl,rfl⟩)⟩
  have e:nextM W r 4=W*y+(x - 1):=by unfold nextM;simp;omega
  rw [e]
  exact at2_of (by omega) (by omega)
 rw [jv c2]
 by_cases c3:y<b
 ·rw [jk c3]
  refine ⟨x,y+1,?_,.inr (.inr (.inl ⟨by omega,c3,rfl,rfl⟩))⟩
  have e:nextM W r 2=W*(y+1)+x:=by unfold nextM;simp;rw [Int.mul_add];omega
  rw [e]
  exact at2_of (by omega) (by omega)
 rw [jv c3]
 by_cases c4:b<y
 ·rw [jk c4]
  refine ⟨x,y - 1,?_,.inr (.inr (.inr (.inl ⟨by omega,c4,rfl,rfl⟩)))⟩
  have e:nextM W r 8=W*(y - 1)+x:=by unfold nextM;simp;rw [Int.mul_sub];omega
  rw [e]
  exact at2_of (by omega) (by omega)
 rw [jv c4]
 refine ⟨x,y,?_,.inr (.inr (.inr (.inr ⟨by omega,by omega,rfl,rfl⟩)))⟩
 have e:nextM W r 16=r:=by unfold nextM;simp
 rw [e]
 exact h1
theorem dist_zero {W r t:Int}(hW:0<W):distM W r t=0<->r=t:=by
 obtain ⟨x,y,h1⟩:=at2 hW r
 obtain ⟨a,b,h2⟩:=at2 hW t
 rw [dist_at h1 h2]
 constructor
 ·intro h
  have e1:x=a:=by omega
  have e2:y=b:=by omega
  subst e1;subst e2
  exact h1.inj h2
 ·rintro rfl
  have e1:=h1.col.symm.trans h2.col
  have e2:=h1.row.symm.trans h2.row
  omega
theorem dist_step {W r t:Int}(hW:0<W)(hne:r≠t):distM W (nextM W r (turnM W r t)) t+1=distM W r t:=by
 obtain ⟨x,y,h1⟩:=at2 hW r
 obtain ⟨a,b,h2⟩:=at2 hW t
 obtain ⟨x',y',h3,h4⟩:=step_at h1 h2
 rw [dist_at h1 h2,dist_at h3 h2]
 rcases h4 with h4|h4|h4|h4|⟨e1,e2,_⟩
 ·omega
 ·omega
 ·omega
 ·omega
 ·subst e1;subst e2
  exact absurd (h1.inj h2) hne
theorem step_range {W H r t:Int}(hW:0<W)(hr:0<=r/\r<W*H)(ht:0<=t/\t<W*H):0<=nextM W r (turnM W r t)/\nextM W r (turnM W r t)<W*H:=by
 obtain ⟨x,y,h1⟩:=at2 hW r
 obtain ⟨a,b,h2⟩:=at2 hW t
 obtain ⟨x',y',h3,h4⟩:=step_at h1 h2
 rw [at2_range h1] at hr
 rw [at2_range h2] at ht
 rw [at2_range h3]
 omega
theorem dist_le {W H r t:Int}(hW:0<W)(hr:0<=r/\r<W*H)(ht:0<=t/\t<W*H):(distM W r t:Int)<=W+H - 2:=by
 obtain ⟨x,y,h1⟩:=at2 hW r
 obtain ⟨a,b,h2⟩:=at2 hW t
 rw [at2_range h1] at hr
 rw [at2_range h2] at ht
 rw [dist_at h1 h2]
 have:=h1.x0;have:=h1.x1;have:=h2.x0;have:=h2.x1
 omega
theorem turn_cases (W r t:Int):turnM W r t=1\/turnM W r t=2\/turnM W r t=4\/turnM W r t=8\/turnM W r t=16:=by
 unfold turnM
 split
 ·exact .inl rfl
 ·split
  ·exact .inr (.inr (.inl rfl))
  ·split
   ·exact .inr (.inl rfl)
   ·split
    ·exact .inr (.inr (.inr (.inl rfl)))
    ·exact .inr (.inr (.inr (.inr rfl)))
theorem turn_local {W r t:Int}(hW:0<W):turnM W r t=16<->r=t:=by
 obtain ⟨x,y,h1⟩:=at2 hW r
 obtain ⟨a,b,h2⟩:=at2 hW t
 rw [turn_at h1 h2]
 constructor
 ·intro h
  have e1:x=a:=by
   by_cases c1:x<a
   ·rw [jk c1] at h;cases h
   ·rw [jv c1] at h
    by_cases c2:a<x
    ·rw [jk c2] at h;cases h
    ·omega
  have e2:y=b:=by
   rw [jv (by omega),jv (by omega)] at h
   by_cases c1:y<b
   ·rw [jk c1] at h;cases h
   ·rw [jv c1] at h
    by_cases c2:b<y
    ·rw [jk c2] at h;cases h
    ·omega
  subst e1;subst e2
  exact h1.inj h2
 ·rintro rfl
  have e1:=h1.col.symm.trans h2.col
  have e2:=h1.row.symm.trans h2.row
  rw [jv (by omega),jv (by omega),jv (by omega),jv (by omega)]
theorem rte_self (W t:Int)(hW:0<W):rte W t t=[t]:=by
 unfold rte
 rw [(dist_zero hW).2 rfl]
 rfl
theorem rte_step {W r t:Int}(hW:0<W)(hne:r≠t):rte W r t=r::rte W (nextM W r (turnM W r t)) t:=by
 unfold rte
 rw [<-dist_step hW hne,routeM,jv hne]
theorem rte_head {W r t:Int}(hW:0<W):∃l,rte W r t=r::l:=by
 by_cases h:r=t
 ·subst h;exact ⟨[],rte_self W r hW⟩
 ·exact ⟨_,rte_step hW h⟩
theorem rte_range {W H:Int}(hW:0<W){t:Int}(ht:0<=t/\t<W*H):∀(n:Nat) (r:Int),distM W r t=n->(0<=r/\r<W*H)->∀q∈rte W r t,0<=q/\q<W*H
 |0,r,h,hr=>by
  rw [(dist_zero hW).1 h,rte_self W t hW]
  intro q hq
  rw [qt] at hq
  subst hq;exact ht
 |n+1,r,h,hr=>by
  have hne:r≠t:=fun e=>by rw [(dist_zero hW).2 e] at h;cases h
  have hd:=dist_step hW hne
  rw [rte_step hW hne]
  intro q hq
  rcases qQ.1 hq with rfl|hq
  ·exact hr
  ·exact rte_range hW ht n _ (by omega) (step_range hW hr ht) q hq
def bor (a b:Int):Int:=((a.toNat ||| b.toNat:Nat):Int)
def hasB (x b:Int):Prop:=x.toNat&&&b.toNat≠0
instance (x b:Int):Decidable (hasB x b):=by unfold hasB;infer_instance
theorem hasB_bor (a b c:Int):hasB (bor a b) c<->hasB a c\/hasB b c:=by
 unfold hasB bor
 rw [jg,Nat.and_or_distrib_right]
 constructor
 ·intro h
  by_cases h1:a.toNat&&&c.toNat=0
  ·rw [h1,Nat.zero_or] at h;exact .inr h
  ·exact .inl h1
 ·intro h h2
  have:=Nat.or_eq_zero_iff.1 h2
  rcases h with h|h
  ·exact h this.1
  ·exact h this.2
theorem hasB_zero (c:Int):¬hasB 0 c:=by simp [hasB]
def isOut (b:Int):Prop:=b=1\/b=2\/b=4\/b=8\/b=16
theorem hasB_one {a b:Int}(ha:isOut a)(hb:isOut b):hasB a b<->a=b:=by
 unfold isOut at ha hb
 rcases ha with rfl|rfl|rfl|rfl|rfl<;>rcases hb with rfl|rfl|rfl|rfl|rfl<;>decide
theorem bor_lt {a b:Int}(ha:0<=a/\a<32)(hb:0<=b/\b<32):0<=bor a b/\bor a b<32:=by
 unfold bor
 have h1:a.toNat<2 ^ 5:=by omega
 have h2:b.toNat<2 ^ 5:=by omega
 have:=Nat.or_lt_two_pow h1 h2
 omega
def stepT (W t:Int)(out:List Int)(r:Int):List Int:=out.set r.toNat (bor (out[r.toNat]?.getD 0) (turnM W r t))
def wayT (W src:Int)(out:List Int)(t:Int):List Int:=(rte W src t).foldl (stepT W t) out
def treeM (W:Int)(n:Nat)(src:Int)(ts:List Int):List Int:=ts.foldl (wayT W src) (List.replicate n 0)
theorem stepT_length (W t:Int)(out:List Int)(r:Int):(stepT W t out r).length=out.length:=QH ..
theorem foldT_length (W t:Int):∀(l:List Int) (out:List Int),(l.foldl (stepT W t) out).length=out.length
 |[],_=>rfl
 |r::l,out=>by rw [Qp,foldT_length W t l,stepT_length]
theorem foldW_length (W src:Int):∀(ts:List Int) (out:List Int),(ts.foldl (wayT W src) out).length=out.length
 |[],_=>rfl
 |t::ts,out=>by rw [Qp,foldW_length W src ts];exact foldT_length W t _ out
theorem tree_length (W:Int)(n:Nat)(src:Int)(ts:List Int):(treeM W n src ts).length=n:=by
 unfold treeM
 rw [foldW_length,Qn]
def OutsOk (out:List Int):Prop:=∀x∈out,0<=x/\x<32
theorem turn_lt (W r t:Int):0<=turnM W r t/\turnM W r t<32:=by
 have:=turn_cases W r t
 omega
theorem stepT_ok {W t:Int}{out:List Int}(h:OutsOk out)(r:Int):OutsOk (stepT W t out r):=by
 intro x hx
 rcases Qq hx with hx|rfl
 ·exact h x hx
 ·refine bor_lt ?_ (turn_lt W r t)
  cases hg:out[r.toNat]? with
  |none=>simp
  |some y=>exact h y (qz hg)
theorem foldT_ok {W t:Int}:∀(l:List Int) {out:List Int},OutsOk out->OutsOk (l.foldl (stepT W t) out)
 |[],_,h=>h
 |r::l,_,h=>foldT_ok l (stepT_ok h r)
theorem foldW_ok {W src:Int}:∀(ts:List Int) {out:List Int},OutsOk out->OutsOk (ts.foldl (wayT W src) out)
 |[],_,h=>h
 |t::ts,_,h=>foldW_ok ts (foldT_ok _ h)
theorem tree_ok (W:Int)(n:Nat)(src:Int)(ts:List Int):OutsOk (treeM W n src ts):=
 foldW_ok ts fun x hx=>by rw [QM hx];omega
def hasR (out:List Int)(r b:Int):Prop:=hasB (out[r.toNat]?.getD 0) b
theorem stepT_has {W t:Int}{out:List Int}{r q b:Int}(hq:0<=q)(hr:0<=r/\r.toNat<out.length)(hb:isOut b):hasR (stepT W t out r) q b<->hasR out q b\/(q=r/\turnM W r t=b):=by
 unfold hasR stepT
 by_cases h:q=r
 ·subst h
  rw [QZ hr.2,qY,hasB_bor,hasB_one (turn_cases W q t) hb]
  simp
 ·rw [List.getElem?_set_ne (by omega)]
  simp [h]
theorem foldT_has {W t b:Int}(hb:isOut b){q:Int}(hq:0<=q):∀(l:List Int) {out:List Int},(∀r∈l,0<=r/\r.toNat<out.length)->(hasR (l.foldl (stepT W t) out) q b<->hasR out q b\/(q∈l/\turnM W q t=b))
 |[],out,_=>by simp
 |r::l,out,h=>by
  rw [Qp,foldT_has hb hq l (fun x hx=>by rw [stepT_length];exact h x (qu _ hx)),stepT_has hq (h r qg) hb,qQ]
  constructor
  ·rintro ((h1|⟨rfl,h2⟩)|⟨h1,h2⟩)
   ·exact .inl h1
   ·exact .inr ⟨.inl rfl,h2⟩
   ·exact .inr ⟨.inr h1,h2⟩
  ·rintro (h1|⟨rfl|h1,h2⟩)
   ·exact .inl (.inl h1)
   ·exact .inl (.inr ⟨rfl,h2⟩)
   ·exact .inr ⟨h1,h2⟩
theorem foldW_has {W H src b:Int}(hW:0<W)(hs:0<=src/\src<W*H)(hb:isOut b){q:Int}(hq:0<=q):∀(ts:List Int) {out:List Int},out.length=(W*H).toNat->(∀t∈ts,0<=t/\t<W*H)->
  (hasR (ts.foldl (wayT W src) out) q b<->hasR out q b\/∃t∈ts,q∈rte W src t/\turnM W q t=b)
 |[],out,_,_=>by simp
 |t::ts,out,hl,h=>by
  have ht:=h t qg
  rw [Qp,foldW_has hW hs hb hq ts (by unfold wayT;rw [foldT_length];exact hl) (fun x hx=>h x (qu _ hx))]
  unfold wayT
  rw [foldT_has hb hq _ (fun r hr=>by have:=rte_range hW ht _ src rfl hs r hr;omega)]
  constructor
  ·rintro ((h1|⟨h1,h2⟩)|⟨u,h1,h2⟩)
   ·exact .inl h1
   ·exact .inr ⟨t,qg,h1,h2⟩
   ·exact .inr ⟨u,qu _ h1,h2⟩
  ·rintro (h1|⟨u,h1,h2⟩)
   ·exact .inl (.inl h1)
   ·rcases qQ.1 h1 with rfl|h1
    ·exact .inl (.inr h2)
    ·exact .inr ⟨u,h1,h2⟩
theorem tree_has {W H src b:Int}(hW:0<W)(hs:0<=src/\src<W*H)(hb:isOut b){q:Int}(hq:0<=q){ts:List Int}(h:∀t∈ts,0<=t/\t<W*H):
  hasR (treeM W (W*H).toNat src ts) q b<->∃t∈ts,q∈rte W src t/\turnM W q t=b:=by
 unfold treeM
 rw [foldW_has hW hs hb hq ts (Qn ..) h]
 constructor
 ·rintro (h1|h1)
  ·exfalso
   unfold hasR at h1
   cases hg:(List.replicate (W*H).toNat (0:Int))[q.toNat]? with
   |none=>rw [hg] at h1;exact hasB_zero _ h1
   |some y=>
    rw [hg,QM (qz hg)] at h1
    exact hasB_zero _ h1
  ·exact h1
 ·exact .inr
def linkN (x:Int):Nat:=([1,2,4,8]:List Int).countP fun b=>decide (hasB x b)
def linksM (tree:List Int):Nat:=(tree.map linkN).sum
def outsOf (r:Nat)(x:Int):List (Int×Int):=(([1,2,4,8,16]:List Int).filter fun b=>decide (hasB x b)).map fun b=>((r:Int),b)
def outsM (tree:List Int):List (Int×Int):=(tree.zipIdx.map fun x=>outsOf x.2 x.1).flatten
end Go.Gm
end

section
namespace Go.Gm
structure Chp where
 mesh:Spc
 nr:Int
 sy:Int
 en:Int
 bits:Int
 dead:List Int
def deadE (n:Int):List Int->List Int->Int
 |_,[]=>0
 |pre,k::r=>if¬(0<=k/\k<=n - 1) then 3 else if k∈pre then 5 else deadE n (pre++[k]) r
def chpIn (C:Chp):Prop:=(1<=C.nr/\C.nr<=64)/\(1<=C.sy/\C.sy<=4096)/\(1<=C.en/\C.en<=1024)/\(2<=C.bits/\C.bits<=16)
instance (C:Chp):Decidable (chpIn C):=by unfold chpIn;infer_instance
def chipE (C:Chp):Int:=if meshE C.mesh≠0 then 3 else if¬chpIn C then 3 else deadE (C.mesh.wide*C.mesh.high) [] C.dead
structure ChpOk (C:Chp):Prop where
 mesh:SpcOk C.mesh
 nr:1<=C.nr/\C.nr<=64
 sy:1<=C.sy/\C.sy<=4096
 en:1<=C.en/\C.en<=1024
 bits:2<=C.bits/\C.bits<=16
 dead:(∀k∈C.dead,0<=k/\k<C.mesh.wide*C.mesh.high)/\C.dead.Nodup
theorem deadE_next {n:Int}{l:List Int}{i:Nat}{k:Int}(h:l[i]? =some k)(h1:0<=k/\k<=n - 1)(h2:k∉l.take i):deadE n (l.take i) (l.drop i)=deadE n (l.take (i+1)) (l.drop (i+1)):=by
 obtain ⟨hlt,rfl⟩:=qx.1 h
 rw [qG hlt,deadE,jv (by omega),jv h2,qi,h]
 rfl
theorem deadE_bad {n:Int}{l:List Int}{i:Nat}{k:Int}(h:l[i]? =some k)(h1:¬(0<=k/\k<=n - 1)):deadE n (l.take i) (l.drop i)=3:=by
 obtain ⟨hlt,rfl⟩:=qx.1 h
 rw [qG hlt,deadE,jk h1]
theorem deadE_have {n:Int}{l:List Int}{i:Nat}{k:Int}(h:l[i]? =some k)(h1:0<=k/\k<=n - 1)(h2:k∈l.take i):deadE n (l.take i) (l.drop i)=5:=by
 obtain ⟨hlt,rfl⟩:=qx.1 h
 rw [qG hlt,deadE,jv (by omega),jk h2]
theorem deadE_end {n:Int}{l:List Int}{i:Nat}(h:l.length<=i):deadE n (l.take i) (l.drop i)=0:=by
 rw [Qi h];rfl
theorem deadE_zero {n:Int}:∀(r pre:List Int),deadE n pre r=0->(∀k∈pre,0<=k/\k<n)->pre.Nodup->(∀k∈pre++r,0<=k/\k<n)/\(pre++r).Nodup
 |[],pre,_,h1,h2=>by rw [qC];exact ⟨h1,h2⟩
 |k::r,pre,h,h1,h2=>by
  rw [deadE] at h
  split at h
  ·cases h
  ·split at h
   ·cases h
   ·rename_i g1 g2
    have:=deadE_zero r (pre++[k]) h (fun x hx=>by
     rcases qH.1 hx with hx|hx
     ·exact h1 x hx
     ·rw [qt] at hx;subst hx;omega) (Qe.2 ⟨h2,by simp,fun a ha b hb e=>by rw [qt] at hb;subst hb;subst e;exact g2 ha⟩)
    rw [qJ,List.singleton_append] at this
    exact this
theorem chipE_zero {C:Chp}(h:chipE C=0):ChpOk C:=by
 unfold chipE at h
 split at h
 ·cases h
 ·rename_i h1
  split at h
  ·cases h
  ·rename_i h2
   have h3:=Qm.1 h2
   exact ⟨meshE_zero.1 (Qm.1 h1),h3.1,h3.2.1,h3.2.2.1,h3.2.2.2,by simpa using deadE_zero C.dead [] h (by simp) List.nodup_nil⟩
def nCores (C:Chp):Nat:=(C.mesh.wide*C.mesh.high).toNat
theorem nCores_ok {C:Chp}(h:ChpOk C):(nCores C:Int)=C.mesh.wide*C.mesh.high/\1<=nCores C/\nCores C<=64:=by
 obtain ⟨w1,w2⟩:=h.mesh.wide
 obtain ⟨g1,g2⟩:=h.mesh.high
 have h1:1*1<=C.mesh.wide*C.mesh.high:=Int.mul_le_mul w1 g1 (by omega) (by omega)
 have h2:C.mesh.wide*C.mesh.high<=8*8:=Int.mul_le_mul w2 g2 (by omega) (by omega)
 unfold nCores
 omega
def keyM (N:Net)(f:Int):Int:=if f<0 then (N.ps.length:Int) - 1 - f else f
def planE (N:Net)(C:Chp):Int:=if netchk N≠0 then netchk N else if chipE C≠0 then chipE C else if 256<(N.ps.length:Int)+N.inputs then 9 else 0
structure PlanOk (N:Net) (C:Chp):Prop where
 net:NetOk N
 chip:ChpOk C
 few:(N.ps.length:Int)+N.inputs<=256
theorem planE_zero {N:Net}{C:Chp}(h:planE N C=0):PlanOk N C:=by
 unfold planE at h
 split at h
 ·omega
 ·rename_i h1
  split at h
  ·omega
  ·rename_i h2
   split at h
   ·cases h
   ·exact ⟨netchk_zero.1 (by omega),chipE_zero (by omega),by omega⟩
def nSrc (N:Net):Nat:=N.ps.length+N.inputs.toNat
theorem key_range {N:Net}(hN:NetOk N){s:Syn}(hs:s∈N.syns):0<=keyM N s.frm/\keyM N s.frm<nSrc N:=by
 have h:=(hN.syns s hs).1
 have hi:=hN.inputs
 unfold srcOk at h
 unfold keyM nSrc
 split<;>omega
def tgt1 (N:Net)(key:Int)(acc:List Int)(s:Syn):List Int:=if keyM N s.frm=key/\s.to∉acc then acc++[s.to] else acc
def tgtM (N:Net)(l:List Syn)(key:Int):List Int:=l.foldl (tgt1 N key) []
def frm1 (N:Net)(to:Int)(acc:List Int)(s:Syn):List Int:=if s.to=to/\keyM N s.frm∉acc then acc++[keyM N s.frm] else acc
def frmM (N:Net)(l:List Syn)(to:Int):List Int:=l.foldl (frm1 N to) []
def rowN (l:List Syn)(i:Int):Nat:=l.countP fun s=>decide (s.to=i)
theorem foldl_take {α β:Type}{f:β->α->β}{b:β}{l:List α}{i:Nat}{x:α}(h:l[i]? =some x):(l.take (i+1)).foldl f b=f ((l.take i).foldl f b) x:=by
 rw [qi,h,qW,Qx];rfl
theorem mem_tgt {N:Net}{key t:Int}:∀(l:List Syn) (acc:List Int),t∈l.foldl (tgt1 N key) acc<->t∈acc\/∃s∈l,keyM N s.frm=key/\s.to=t
 |[],acc=>by simp
 |s::l,acc=>by
  rw [Qp,mem_tgt l]
  have h1:t∈tgt1 N key acc s<->t∈acc\/(keyM N s.frm=key/\s.to=t):=by
   unfold tgt1
   split
   ·rename_i h
    rw [qH,qt]
    constructor
    ·rintro (h1|rfl)
     ·exact .inl h1
     ·exact .inr ⟨h.1,rfl⟩
    ·rintro (h1|⟨_,rfl⟩)
     ·exact .inl h1
     ·exact .inr rfl
   ·rename_i h
    constructor
    ·exact .inl
    ·rintro (h1|⟨h1,rfl⟩)
     ·exact h1
     ·exact jy fun hn=>h ⟨h1,hn⟩
  rw [h1]
  constructor
  ·rintro ((h|h)|⟨u,hu,h⟩)
   ·exact .inl h
   ·exact .inr ⟨s,qg,h⟩
   ·exact .inr ⟨u,qu _ hu,h⟩
  ·rintro (h|⟨u,hu,h⟩)
   ·exact .inl (.inl h)
   ·rcases qQ.1 hu with rfl|hu
    ·exact .inl (.inr h)
    ·exact .inr ⟨u,hu,h⟩
theorem mem_tgtM {N:Net}{key t:Int}{l:List Syn}:t∈tgtM N l key<->∃s∈l,keyM N s.frm=key/\s.to=t:=by
 unfold tgtM;rw [mem_tgt];simp
theorem mem_frm {N:Net}{to k:Int}:∀(l:List Syn) (acc:List Int),k∈l.foldl (frm1 N to) acc<->k∈acc\/∃s∈l,s.to=to/\keyM N s.frm=k
 |[],acc=>by simp
 |s::l,acc=>by
  rw [Qp,mem_frm l]
  have h1:k∈frm1 N to acc s<->k∈acc\/(s.to=to/\keyM N s.frm=k):=by
   unfold frm1
   split
   ·rename_i h
    rw [qH,qt]
    constructor
    ·rintro (h1|rfl)
     ·exact .inl h1
     ·exact .inr ⟨h.1,rfl⟩
    ·rintro (h1|⟨_,rfl⟩)
     ·exact .inl h1
     ·exact .inr rfl
   ·rename_i h
    constructor
    ·exact .inl
    ·rintro (h1|⟨h1,rfl⟩)
     ·exact h1
     ·exact jy fun hn=>h ⟨h1,hn⟩
  rw [h1]
  constructor
  ·rintro ((h|h)|⟨u,hu,h⟩)
   ·exact .inl h
   ·exact .inr ⟨s,qg,h⟩
   ·exact .inr ⟨u,qu _ hu,h⟩
  ·rintro (h|⟨u,hu,h⟩)
   ·exact .inl (.inl h)
   ·rcases qQ.1 hu with rfl|hu
    ·exact .inl (.inr h)
    ·exact .inr ⟨u,hu,h⟩
theorem mem_frmM {N:Net}{to k:Int}{l:List Syn}:k∈frmM N l to<->∃s∈l,s.to=to/\keyM N s.frm=k:=by
 unfold frmM;rw [mem_frm];simp
theorem tgt_len {N:Net}{key:Int}:∀(l:List Syn) (acc:List Int),(l.foldl (tgt1 N key) acc).length<=acc.length+l.length
 |[],acc=>by simp
 |s::l,acc=>by
  have:=tgt_len (N:=N) (key:=key) l (tgt1 N key acc s)
  have h2:(tgt1 N key acc s).length<=acc.length+1:=by unfold tgt1;split<;>simp
  rw [Qp,qR]
  omega
theorem frm_len {N:Net}{to:Int}:∀(l:List Syn) (acc:List Int),(l.foldl (frm1 N to) acc).length<=acc.length+l.length
 |[],acc=>by simp
 |s::l,acc=>by
  have:=frm_len (N:=N) (to:=to) l (frm1 N to acc s)
  have h2:(frm1 N to acc s).length<=acc.length+1:=by unfold frm1;split<;>simp
  rw [Qp,qR]
  omega
theorem rowN_take {l:List Syn}{i:Nat}{s:Syn}(h:l[i]? =some s)(k:Int):rowN (l.take (i+1)) k=rowN (l.take i) k+if s.to=k then 1 else 0:=by
 unfold rowN
 rw [qi,h,qW,List.countP_append]
 by_cases hk:s.to=k<;>simp [hk]
def useN (cores:List Int)(k:Int):Nat:=cores.countP fun c=>decide (c=k)
def useR (l:List Syn)(cores:List Int)(k:Int):Nat:=l.countP fun s=>decide (0<=s.to/\cores[s.to.toNat]? =some k)
theorem useN_snoc (cores:List Int)(c k:Int):useN (cores++[c]) k=useN cores k+if c=k then 1 else 0:=by
 unfold useN
 rw [List.countP_append]
 by_cases h:c=k<;>simp [h]
theorem useR_snoc (l:List Syn)(cores:List Int)(c k:Int):useR l (cores++[c]) k=useR l cores k+if c=k then rowN l cores.length else 0:=by
 unfold useR rowN
 induction l with
 |nil=>simp
 |cons s l ih=>
  rw [List.countP_cons,List.countP_cons,List.countP_cons,ih]
  have e:(0<=s.to/\(cores++[c])[s.to.toNat]? =some k)<->(0<=s.to/\cores[s.to.toNat]? =some k)\/(s.to=(cores.length:Int)/\c=k):=by
   by_cases h0:0<=s.to
   ·by_cases h1:s.to.toNat<cores.length
    ·rw [QY h1]
     constructor
     ·exact .inl
     ·rintro (h|h)
      ·exact h
      ·omega
    ·rw [Qr (by omega),qf (l:=cores) (by omega)]
     by_cases h2:s.to=(cores.length:Int)
     ·rw [h2];simp
     ·rw [qf (by simp;omega)]
      simp [h2]
   ·constructor
    ·rintro ⟨h,_⟩;exact absurd h h0
    ·rintro (⟨h,_⟩|⟨h,_⟩)
     ·exact absurd h h0
     ·omega
  simp only [jw]
  have hx:¬((0<=s.to/\cores[s.to.toNat]? =some k)/\s.to=(cores.length:Int)):=by
   rintro ⟨⟨_,h1⟩,h2⟩
   have:=(qx.1 h1).1
   omega
  by_cases hc:c=k
  ·rw [jk hc]
   by_cases h1:0<=s.to/\cores[s.to.toNat]? =some k
   ·rw [jk (e.2 (.inl h1)),jk h1,jv (fun h=>hx ⟨h1,h⟩)]
    rw [jk hc];omega
   ·by_cases h2:s.to=(cores.length:Int)
    ·rw [jk (e.2 (.inr ⟨h2,hc⟩)),jv h1,jk h2,jk hc];omega
    ·rw [jv (fun h=>(e.1 h).elim h1 fun h=>h2 h.1),jv h1,jv h2,jk hc];omega
  ·rw [jv hc]
   by_cases h1:0<=s.to/\cores[s.to.toNat]? =some k
   ·rw [jk (e.2 (.inl h1)),jk h1,jv hc]
   ·rw [jv (fun h=>(e.1 h).elim h1 fun h=>hc h.2),jv h1,jv hc]
def fitsA (C:Chp)(l:List Syn)(cores:List Int):Prop:=∀k:Nat,k<nCores C->(useN cores k:Int)<=C.nr/\(useR l cores k:Int)<=C.sy
def coreE (C:Chp):List Int->Int
 |[]=>0
 |k::r=>if¬(0<=k/\k<=C.mesh.wide*C.mesh.high - 1) then 3 else if k∈C.dead then 25 else coreE C r
instance (C:Chp) (l:List Syn) (cores:List Int):Decidable (fitsA C l cores):=by unfold fitsA;exact Nat.decidableBallLT _ _
def asgE (N:Net)(C:Chp)(cores:List Int):Int:=
 if planE N C≠0 then planE N C else if cores.length≠N.ps.length then 13 else if coreE C cores≠0 then coreE C cores else if¬fitsA C N.syns cores then 15 else 0
structure AsgOk (N:Net) (C:Chp) (cores:List Int):Prop where
 plan:PlanOk N C
 len:cores.length=N.ps.length
 core:∀k∈cores,(0<=k/\k<C.mesh.wide*C.mesh.high)/\k∉C.dead
 fits:fitsA C N.syns cores
theorem coreE_zero {C:Chp}:∀{l:List Int},coreE C l=0<->∀k∈l,(0<=k/\k<C.mesh.wide*C.mesh.high)/\k∉C.dead
 |[]=>by simp [coreE]
 |k::r=>by
  rw [coreE]
  constructor
  ·intro h
   split at h
   ·cases h
   ·split at h
    ·cases h
    ·rename_i h1 h2
     intro x hx
     rcases qQ.1 hx with rfl|hx
     ·exact ⟨by omega,h2⟩
     ·exact coreE_zero.1 h x hx
  ·intro h
   have hk:=h k qg
   rw [jv (by omega),jv hk.2]
   exact coreE_zero.2 fun x hx=>h x (qu _ hx)
theorem coreE_next {C:Chp}{l:List Int}{i:Nat}{k:Int}(h:l[i]? =some k)(h1:0<=k/\k<=C.mesh.wide*C.mesh.high - 1)(h2:k∉C.dead):coreE C (l.drop i)=coreE C (l.drop (i+1)):=by
 obtain ⟨hlt,rfl⟩:=qx.1 h
 rw [qG hlt,coreE,jv (by omega),jv h2]
theorem coreE_bad {C:Chp}{l:List Int}{i:Nat}{k:Int}(h:l[i]? =some k)(h1:¬(0<=k/\k<=C.mesh.wide*C.mesh.high - 1)):coreE C (l.drop i)=3:=by
 obtain ⟨hlt,rfl⟩:=qx.1 h
 rw [qG hlt,coreE,jk h1]
theorem coreE_down {C:Chp}{l:List Int}{i:Nat}{k:Int}(h:l[i]? =some k)(h1:0<=k/\k<=C.mesh.wide*C.mesh.high - 1)(h2:k∈C.dead):coreE C (l.drop i)=25:=by
 obtain ⟨hlt,rfl⟩:=qx.1 h
 rw [qG hlt,coreE,jv (by omega),jk h2]
theorem asgE_zero {N:Net}{C:Chp}{cores:List Int}(h:asgE N C cores=0):AsgOk N C cores:=by
 unfold asgE at h
 split at h
 ·omega
 ·rename_i h1
  split at h
  ·cases h
  ·rename_i h2
   split at h
   ·omega
   ·rename_i h3
    split at h
    ·cases h
    ·rename_i h4
     exact ⟨planE_zero (by omega),by omega,coreE_zero.1 (by omega),Qm.1 h4⟩
def coresM (N:Net)(C:Chp)(cores:List Int)(key:Int):List Int:=
 ((List.range (nCores C)).map fun (k:Nat)=>(k:Int)).filter fun k=>decide (∃s∈N.syns,keyM N s.frm=key/\cores[s.to.toNat]? =some k)
def homeM (N:Net)(cores:List Int)(key:Int):Int:=if key<N.ps.length then cores[key.toNat]?.getD 0 else 0
def srcTree (N:Net)(C:Chp)(cores:List Int)(key:Int):List Int:=treeM C.mesh.wide (nCores C) (homeM N cores key) (coresM N C cores key)
def keysM (N:Net):List Int:=((List.range (nSrc N)).map fun (k:Nat)=>(k:Int)).filter fun k=>decide (∃s∈N.syns,keyM N s.frm=k)
def costM (N:Net)(C:Chp)(cores:List Int):Nat:=((keysM N).map fun k=>linksM (srcTree N C cores k)).sum
end Go.Gm
end
