import Derived.Test.YtlbekjokdlkghaaGreatChipKnownVb
import Derived.Test.YtlbekjokdlkghaaGreatChipKnownGa
import Derived.Test.YtlbekjokdlkghaaGreatChipKnownNeuron
import Derived.Test.YtlbekjokdlkghaaGreatChipKnownNa
import Derived.Deep.Slices
import Derived.Deep.Fields
import Derived.ChangeSame
import Derived.WalkKit
import Derived.ProofKit
import Derived.OpenShut
import Derived.Carry
import Derived.Lib.SmallJoins
import Derived.WideKeyArgs
import Derived.Test.YtlbekjokdlkghaaGreatRows
set_option linter.unusedVariables false
set_option linter.unusedSimpArgs false
set_option maxHeartbeats 4000000
section
section
namespace Go.Proofs
open Go Go.Vx Go.Gm Go.RowKit Go.WideShapes Go.ChangeShapes Go.Deep Go.Joins
section
variable {H : Type} {enc : TypeId × Value -> H} {P : Program} {w : World} {base : Nat} {spare : Nat -> Bool} {held : Bool}
end
end Go.Proofs
end
section
namespace Go.Proofs
open Go Go.Vx Go.Gm Go.RowKit Go.WideShapes Go.ChangeShapes Go.Deep Go.Joins
section
variable {H : Type} {enc : TypeId × Value -> H} {P : Program}
theorem below_of_st {W W':World}(h:St W [] [] W'):Below W.heap.size W W':=⟨h.os,h.tape,h.output,h.size,fun k hk=>h.old k hk (by simp)⟩
theorem args_stay (hl:laidOutB P=true){W W':World}(hb:Below W.heap.size W W'){sp:Nat->Bool}:∀{ts:List TypeId} {vs:List Value} {ds:List (DataW H)} {ps:List MemPlace},
  (ts.all fun t=>P.readableRec t&&decide (t<P.types.size))=true->DataW.TrodAll enc P W 0 (fun _=>true) true ts vs ds ps->(∀x∈ps,x.block<W.heap.size)->(∀x∈ps,sp x.block=true)->
  DataW.TrodAll enc P W' 0 sp true ts vs ds ps
 |[],_,_,_,_,h,_,_=>by
  obtain ⟨rfl,rfl,rfl⟩:=trodAll_nil h
  rfl
 |t::ts,_,_,_,hr,h,hlt,hsp=>by
  obtain ⟨v,vs,d,ds,p,q,rfl,rfl,rfl,h1,h2⟩:=trodAll_cons h
  simp only [List.all_cons,Qd,jv] at hr
  refine trodAll_cons_mk (WideElems.Trod_stays hl hr.1.1 hr.1.2 h1 (fun x hx=>hb.same (hlt x (by simp [hx]))) (fun x hx=>hsp x (by simp [hx]))) ?_
  exact args_stay hl hb hr.2 h2 (fun x hx=>hlt x (by simp [hx])) (fun x hx=>hsp x (by simp [hx]))
theorem law_post {f:Func}{s:ChangeSpec}{fresh handsOn:Bool}{W W':World}{args:Array Value}{ds gs:List (DataW H)}{before:List MemPlace}{t0:TypeId}
  (hl:laidOutB P=true) (hr:(f.params.toList.all fun t=>P.readableRec t&&decide (t<P.types.size))=true) (hsv:s.vars=[]) (hres:f.resultTypes=#[t0]) (ht0:P.underlying t0=some .bool)
  (hspec:s.fn H ds={results:=[.lit (.bool true)],args:=ds}) (hW:DataW.Whole enc P f.params.toList s.vars false W args.toList ds gs before) (hs:St W [] [] W'):
  s.post enc P f false fresh handsOn false W args (.bool true) W':=by
 have hb:=below_of_st hs
 have hlt:∀p∈before,p.block<W.heap.size:=fun p hp=>hW.lt p hp
 have hW':=hW
 obtain ⟨p,q,hA,hV,rfl,hz,hn⟩:=hW
 rw [hsv] at hV
 obtain ⟨rfl,rfl⟩:=trodVars_none hV
 have hargs:∀sp:Nat->Bool,(∀x∈p,sp x.block=true)->DataW.TrodAll enc P W' 0 sp true f.params.toList args.toList ds p:=fun sp hsp=>args_stay hl hb hr hA (fun x hx=>hlt x (by simp [hx])) hsp
 have hold:∀x∈p,(fun b=>decide (b<W.heap.size)) x.block=true:=fun x hx=>by simpa using hlt x (by simp [hx])
 have e:s.fn H (ds++[])={results:=[.lit (.bool true)],args:=ds}:=by rw [qC];exact hspec
 have hr1:∀(b:Nat) (sp:Nat->Bool) (hd:Bool),DataW.TrodAll enc P W' b sp hd f.resultTypes.toList ((Value.bool true).resultList f.resultTypes.size) [.lit (.bool true)] []:=fun b sp hd=>by
  rw [hres]
  exact trodAll_mk1 (shut_bool ht0 _)
 have hvars:∀sp:Nat->Bool,DataW.TrodVars enc P W' sp s.vars (s.fn H (ds++[])).vars []:=fun sp=>by rw [hsv,e];rfl
 refine ⟨ds,[],_,[],p,[],hW',by rw [e];exact hr1 _ _ _,by rw [e];exact hargs _ hold,hvars _,World.keptBut_mono (fun x hx=>?_) (hb.frame (fun _=>False)),fun h=>by cases h⟩
 exact hx.elim
end
end Go.Proofs
end
section
namespace Go.Proofs
open Go Go.Vx Go.Gm Go.RowKit Go.WideShapes Go.ChangeShapes Go.Deep Go.Joins
theorem Tryz.own0:ownKnob Tryz.prog.godebug=none:=by kernel_rfl
theorem Tryz.laid0:laidOutB Tryz.prog=true:=by kernel_rfl
section
variable {H : Type} {enc : TypeId × Value -> H} {W : World} {base b0 : Nat} {spare : Nat -> Bool} {held : Bool} {r : Reach}
end
end Go.Proofs
end
section
namespace Go.Proofs
open Go Go.Vx Go.Gm Go.RowKit Go.WideShapes Go.ChangeShapes Go.Deep Go.Joins
section
variable {H : Type} {enc : TypeId × Value -> H} {W : World} {base b0 : Nat} {spare : Nat -> Bool} {held : Bool} {r : Reach}
end
end Go.Proofs
end
end

section
namespace Go.Gm
open Go Go.Vx
def defE (d:Nat):Ent:=.obj d (.deferred (some []))
theorem _root_.Go.Vx.AtS.nil_eq {H S:HP}{Z:HP->HP}(h:AtS H S Z):S=[]->H=Z []:=by
 induction h with
 |here=>intro e;subst e;rfl
 |last=>intro e;subst e;rfl
 |there h ih=>intro e;show _::_=_::_;rw [ih e]
 |app h ih=>intro e;show _++_=_++_;rw [ih e]
theorem _root_.Go.Vx.AtS.uncons {H X:HP}{Z:HP->HP}(h:AtS H X Z):∀{x:Ent} {S:HP},X=x::S->∃u r Z',At H x u r/\AtS r S Z'/\Z' []=Z []:=by
 induction h with
 |@here S' R=>intro x S e;subst e;exact ⟨_,S++R,fun S'=>S'++R,.here,.here,rfl⟩
 |last=>intro x S e;subst e;exact ⟨_,S,fun S'=>S',.here,.last,rfl⟩
 |@there H0 S' Z0 z h ih=>
  intro x S e
  obtain ⟨u,r,Z',h1,h2,h3⟩:=ih e
  exact ⟨_,z::r,fun S'=>z::Z' S',.there h1,.there h2,by show z::Z' []=z::Z0 [];rw [h3]⟩
 |@app H0 S' Z0 A h ih=>
  intro x S e
  obtain ⟨u,r,Z',h1,h2,h3⟩:=ih e
  exact ⟨_,A++r,fun S'=>A++Z' S',At.app A h1,.app h2,by show A++Z' []=A++Z0 [];rw [h3]⟩
theorem unE_is {DD:List Nat}{H:HP}{k:HP->Prop}(h:unE (DD.map markV) H k):unE (DD.map markV) H k:=h
theorem unE_marks:∀{DD:List Nat} {H:HP} {Z:HP->HP} {k:HP->Prop},AtS H (DD.map defE) Z->k (Z [])->unE (DD.map markV) H k
 |[],H,Z,k,h,hk=>by
  rw [<-h.nil_eq rfl] at hk
  exact hk
 |d::DD,H,Z,k,h,hk=>by
  obtain ⟨u,r,Z',h1,h2,h3⟩:=h.uncons rfl
  show VUn H d _
  refine .mk h1 ?_
  rw [<-h3] at hk
  exact unE_marks h2 hk
theorem _root_.Go.Vx.VCall.le {P:Program}{w0:World}{M:List Nat}{H H':HP}{f:Nat}{args:List Value}{K:Value->HP->Prop}(hl:HLe H' H)(h:VCall P w0 M H' f args K):VCall P w0 M H f args K:=by
 cases h with
 |mk h=>exact .mk fun w hw=>h w (hw.le hl)
theorem _root_.Go.Vx.VYield.weak {P:Program}{w0:World}{M:List Nat}{H H':HP}{l:Nat}{args:List Value}{K:Value->HP->Prop}(hl:HLe H' H)(h:VYield P w0 M H' l args K):VYield P w0 M H l args K:=by
 cases h with
 |mk h=>exact .mk fun w hw=>h w (hw.le hl)
theorem _root_.Go.Vx.VYield.mono {P:Program}{w0:World}{M:List Nat}{H:HP}{l:Nat}{args:List Value}{K K':Value->HP->Prop}(h:VYield P w0 M H l args K)(hk:∀r H',K r H'->K' r H'):VYield P w0 M H l args K':=by
 cases h with
 |mk h=>
  refine .mk fun w hw=>?_
  obtain ⟨fn,tmps,asg,bd,h1,h2⟩:=h w hw
  exact ⟨fn,tmps,asg,bd,h1,h2.mono fun e w' ⟨v,H',g1,g2,g3⟩=>⟨v,H',g1,g2,hk v H' g3⟩⟩
theorem _root_.Go.Vx.VYield.hle {P:Program}{w0:World}{M:List Nat}{H:HP}{l:Nat}{args:List Value}{K:Value->HP->Prop}(h:VYield P w0 M H l args fun v H'=>∃H'',HLe H'' H'/\K v H''):VYield P w0 M H l args K:=by
 cases h with
 |mk h=>
  refine .mk fun w hw=>?_
  obtain ⟨fn,tmps,asg,bd,h1,h2⟩:=h w hw
  exact ⟨fn,tmps,asg,bd,h1,h2.mono fun e w' ⟨v,H',g1,g2,H'',g3,g4⟩=>⟨v,H'',g1,g2.le g3,g4⟩⟩
theorem _root_.Go.Vx.VCall.hle {P:Program}{w0:World}{M:List Nat}{H:HP}{f:Nat}{args:List Value}{K:Value->HP->Prop}(h:VCall P w0 M H f args fun v H'=>∃H'',HLe H'' H'/\K v H''):VCall P w0 M H f args K:=by
 obtain ⟨h⟩:=h
 exact .mk fun w hw=>(h w hw).mono fun e w' ⟨v,H',he,hw',H'',hl,hk⟩=>⟨v,H'',he,hw'.le hl,hk⟩
theorem bits_or {a b:Nat}(ha:a<2 ^ 63)(hb:b<2 ^ 63):bitsI .or .i64 (a:Int) (b:Int)=((a ||| b:Nat):Int):=by
 unfold bitsI
 dsimp only
 have hbb:IntKind.i64.bits=64:=rfl
 have h1:(BitVec.ofInt IntKind.i64.bits (a:Int) ||| BitVec.ofInt IntKind.i64.bits (b:Int)).toNat=a ||| b:=by
  rw [BitVec.toNat_or]
  have e1:(BitVec.ofInt IntKind.i64.bits (a:Int)).toNat=a:=by rw [BitVec.toNat_ofInt,hbb];omega
  have e2:(BitVec.ofInt IntKind.i64.bits (b:Int)).toNat=b:=by rw [BitVec.toNat_ofInt,hbb];omega
  rw [e1,e2]
 have h2:a ||| b<2 ^ 63:=Nat.or_lt_two_pow ha hb
 rw [h1,wrap_i64 qZ qZ]
theorem _root_.Go.Vx.VBit.or {a b:Int}{k:Int->Prop}(ha:0<=a/\a<=4611686018427387904)(hb:0<=b/\b<=4611686018427387904)(hk:k ((a.toNat ||| b.toNat:Nat):Int)):VBit .or .i64 a b k:=by
 refine .mk ?_
 have:=bits_or (a:=a.toNat) (b:=b.toNat) qZ qZ
 rw [Ql ha.1,Ql hb.1] at this
 rw [this]
 exact hk
end Go.Gm
end

section
namespace Go.Gm
structure Spc where
 wide:Int
 high:Int
 room:Int
 deriving DecidableEq
structure SpcOk (s:Spc):Prop where
 wide:1<=s.wide/\s.wide<=8
 high:1<=s.high/\s.high<=8
 room:1<=s.room/\s.room<=64
def meshE (s:Spc):Int:=if (1<=s.wide/\s.wide<=8)/\(1<=s.high/\s.high<=8)/\1<=s.room/\s.room<=64 then 0 else 3
theorem meshE_zero {s:Spc}:meshE s=0<->SpcOk s:=by
 unfold meshE
 constructor
 ·intro h
  split at h
  ·rename_i h1;exact ⟨h1.1,h1.2.1,h1.2.2⟩
  ·cases h
 ·rintro ⟨h1,h2,h3⟩
  rw [jx ⟨h1,h2,h3⟩]
def turnM (W r t:Int):Int:=if r%W<t%W then 1 else if t%W<r%W then 4 else if r / W<t / W then 2 else if t / W<r / W then 8 else 16
def nextM (W r o:Int):Int:=if o=1 then r+1 else if o=2 then r+W else if o=4 then r - 1 else if o=8 then r - W else r
def distM (W r t:Int):Nat:=(r%W - t%W).natAbs+(r / W - t / W).natAbs
def routeM (W:Int):Nat->Int->Int->List Int
 |0,r,_=>[r]
 |n+1,r,t=>if r=t then [r] else r::routeM W n (nextM W r (turnM W r t)) t
def rte (W r t:Int):List Int:=routeM W (distM W r t) r t
structure At2 (W r x y:Int):Prop where
 eq:r=W*y+x
 col:r%W=x
 row:r / W=y
 x0:0<=x
 x1:x<W
theorem at2 {W:Int}(hW:0<W)(r:Int):∃x y,At2 W r x y:=
 ⟨r%W,r / W,by have:=Int.emod_add_mul_ediv r W;omega,rfl,rfl,Int.emod_nonneg _ (by omega),Int.emod_lt_of_pos _ hW⟩
theorem at2_of {W x y:Int}(h0:0<=x)(h1:x<W):At2 W (W*y+x) x y:=by
 refine ⟨rfl,?_,?_,h0,h1⟩
 ·rw [Int.add_comm,Int.add_mul_emod_self_left,Int.emod_eq_of_lt h0 h1]
 ·rw [Int.add_comm,Int.add_mul_ediv_left _ _ (by omega),Int.ediv_eq_zero_of_lt h0 h1,Int.zero_add]
theorem At2.inj {W r t x y:Int}(h1:At2 W r x y)(h2:At2 W t x y):r=t:=by rw [h1.eq,h2.eq]
theorem at2_range {W H r x y:Int}(h:At2 W r x y):(0<=r/\r<W*H)<->(0<=y/\y<H):=by
 have hW:0<W:=by have:=h.x0;have:=h.x1;omega
 rw [h.eq]
 constructor
 ·rintro ⟨h1,h2⟩
  refine ⟨?_,?_⟩
  ·refine Int.not_lt.1 fun hy=>?_
   have:W*y<=W*(-1):=Int.mul_le_mul_of_nonneg_left (by omega) (by omega)
   have:=h.x1
   omega
  ·refine Int.not_le.1 fun hy=>?_
   have:W*H<=W*y:=Int.mul_le_mul_of_nonneg_left hy (by omega)
   have:=h.x0
   omega
 ·rintro ⟨h1,h2⟩
  have g1:0<=W*y:=Int.mul_nonneg (by omega) h1
  have g2:W*(y+1)<=W*H:=Int.mul_le_mul_of_nonneg_left (by omega) (by omega)
  rw [Int.mul_add] at g2
  have:=h.x0
  have:=h.x1
  omega
theorem dist_at {W r t x y a b:Int}(h1:At2 W r x y)(h2:At2 W t a b):distM W r t=(x - a).natAbs+(y - b).natAbs:=by
 unfold distM
 rw [h1.col,h1.row,h2.col,h2.row]
theorem turn_at {W r t x y a b:Int}(h1:At2 W r x y)(h2:At2 W t a b):turnM W r t=if x<a then 1 else if a<x then 4 else if y<b then 2 else if b<y then 8 else 16:=by
 unfold turnM
 rw [h1.col,h1.row,h2.col,h2.row]
theorem step_at {W r t x y a b:Int}(h1:At2 W r x y)(h2:At2 W t a b):∃x' y',At2 W (nextM W r (turnM W r t)) x' y'/\
  ((x<a/\x'=x+1/\y'=y)\/(a<x/\x'=x - 1/\y'=y)\/(x=a/\y<b/\x'=x/\y'=y+1)\/(x=a/\b<y/\x'=x/\y'=y - 1)\/(x=a/\y=b/\x'=x/\y'=y)):=by
 have hx0:=h1.x0
 have hx1:=h1.x1
 have ha0:=h2.x0
 have ha1:=h2.x1
 have hr:=h1.eq
 rw [turn_at h1 h2]
 by_cases c1:x<a
 ·rw [jx c1]
  refine ⟨x+1,y,?_,.inl ⟨c1,rfl,rfl⟩⟩
  have e:nextM W r 1=W*y+(x+1):=by unfold nextM;rw [jx rfl];omega
  rw [e]
  exact at2_of (by omega) (by omega)
 rw [jz c1]
 by_cases c2:a<x
 ·rw [jx c2]
  refine ⟨x - 1,y,?_,.inr (.inl ⟨c2,rfl,rfl⟩)⟩
  have e:nextM W r 4=W*y+(x - 1):=by unfold nextM;simp;omega
  rw [e]
  exact at2_of (by omega) (by omega)
 rw [jz c2]
 by_cases c3:y<b
 ·rw [jx c3]
  refine ⟨x,y+1,?_,.inr (.inr (.inl ⟨by omega,c3,rfl,rfl⟩))⟩
  have e:nextM W r 2=W*(y+1)+x:=by unfold nextM;simp;rw [Int.mul_add];omega
  rw [e]
  exact at2_of (by omega) (by omega)
 rw [jz c3]
 by_cases c4:b<y
 ·rw [jx c4]
  refine ⟨x,y - 1,?_,.inr (.inr (.inr (.inl ⟨by omega,c4,rfl,rfl⟩)))⟩
  have e:nextM W r 8=W*(y - 1)+x:=by unfold nextM;simp;rw [Int.mul_sub];omega
  rw [e]
  exact at2_of (by omega) (by omega)
 rw [jz c4]
 refine ⟨x,y,?_,.inr (.inr (.inr (.inr ⟨by omega,by omega,rfl,rfl⟩)))⟩
 have e:nextM W r 16=r:=by unfold nextM;simp
 rw [e]
 exact h1
theorem dist_zero {W r t:Int}(hW:0<W):distM W r t=0<->r=t:=by
 obtain ⟨x,y,h1⟩:=at2 hW r
 obtain ⟨a,b,h2⟩:=at2 hW t
 rw [dist_at h1 h2]
 constructor
 ·intro h
  have e1:x=a:=by omega
  have e2:y=b:=by omega
  subst e1;subst e2
  exact h1.inj h2
 ·rintro rfl
  have e1:=h1.col.symm.trans h2.col
  have e2:=h1.row.symm.trans h2.row
  omega
theorem dist_step {W r t:Int}(hW:0<W)(hne:r≠t):distM W (nextM W r (turnM W r t)) t+1=distM W r t:=by
 obtain ⟨x,y,h1⟩:=at2 hW r
 obtain ⟨a,b,h2⟩:=at2 hW t
 obtain ⟨x',y',h3,h4⟩:=step_at h1 h2
 rw [dist_at h1 h2,dist_at h3 h2]
 rcases h4 with h4|h4|h4|h4|⟨e1,e2,_⟩
 ·omega
 ·omega
 ·omega
 ·omega
 ·subst e1;subst e2
  exact absurd (h1.inj h2) hne
theorem step_range {W H r t:Int}(hW:0<W)(hr:0<=r/\r<W*H)(ht:0<=t/\t<W*H):0<=nextM W r (turnM W r t)/\nextM W r (turnM W r t)<W*H:=by
 obtain ⟨x,y,h1⟩:=at2 hW r
 obtain ⟨a,b,h2⟩:=at2 hW t
 obtain ⟨x',y',h3,h4⟩:=step_at h1 h2
 rw [at2_range h1] at hr
 rw [at2_range h2] at ht
 rw [at2_range h3]
 omega
theorem dist_le {W H r t:Int}(hW:0<W)(hr:0<=r/\r<W*H)(ht:0<=t/\t<W*H):(distM W r t:Int)<=W+H - 2:=by
 obtain ⟨x,y,h1⟩:=at2 hW r
 obtain ⟨a,b,h2⟩:=at2 hW t
 rw [at2_range h1] at hr
 rw [at2_range h2] at ht
 rw [dist_at h1 h2]
 have:=h1.x0;have:=h1.x1;have:=h2.x0;have:=h2.x1
 omega
theorem turn_cases (W r t:Int):turnM W r t=1\/turnM W r t=2\/turnM W r t=4\/turnM W r t=8\/turnM W r t=16:=by
 unfold turnM
 split
 ·exact .inl rfl
 ·split
  ·exact .inr (.inr (.inl rfl))
  ·split
   ·exact .inr (.inl rfl)
   ·split
    ·exact .inr (.inr (.inr (.inl rfl)))
    ·exact .inr (.inr (.inr (.inr rfl)))
theorem turn_local {W r t:Int}(hW:0<W):turnM W r t=16<->r=t:=by
 obtain ⟨x,y,h1⟩:=at2 hW r
 obtain ⟨a,b,h2⟩:=at2 hW t
 rw [turn_at h1 h2]
 constructor
 ·intro h
  have e1:x=a:=by
   by_cases c1:x<a
   ·rw [jx c1] at h;cases h
   ·rw [jz c1] at h
    by_cases c2:a<x
    ·rw [jx c2] at h;cases h
    ·omega
  have e2:y=b:=by
   rw [jz (by omega),jz (by omega)] at h
   by_cases c1:y<b
   ·rw [jx c1] at h;cases h
   ·rw [jz c1] at h
    by_cases c2:b<y
    ·rw [jx c2] at h;cases h
    ·omega
  subst e1;subst e2
  exact h1.inj h2
 ·rintro rfl
  have e1:=h1.col.symm.trans h2.col
  have e2:=h1.row.symm.trans h2.row
  rw [jz (by omega),jz (by omega),jz (by omega),jz (by omega)]
theorem rte_self (W t:Int)(hW:0<W):rte W t t=[t]:=by
 unfold rte
 rw [(dist_zero hW).2 rfl]
 rfl
theorem rte_step {W r t:Int}(hW:0<W)(hne:r≠t):rte W r t=r::rte W (nextM W r (turnM W r t)) t:=by
 unfold rte
 rw [<-dist_step hW hne,routeM,jz hne]
theorem rte_head {W r t:Int}(hW:0<W):∃l,rte W r t=r::l:=by
 by_cases h:r=t
 ·subst h;exact ⟨[],rte_self W r hW⟩
 ·exact ⟨_,rte_step hW h⟩
theorem rte_range {W H:Int}(hW:0<W){t:Int}(ht:0<=t/\t<W*H):∀(n:Nat) (r:Int),distM W r t=n->(0<=r/\r<W*H)->∀q∈rte W r t,0<=q/\q<W*H
 |0,r,h,hr=>by
  rw [(dist_zero hW).1 h,rte_self W t hW]
  intro q hq
  rw [qt] at hq
  subst hq;exact ht
 |n+1,r,h,hr=>by
  have hne:r≠t:=fun e=>by rw [(dist_zero hW).2 e] at h;cases h
  have hd:=dist_step hW hne
  rw [rte_step hW hne]
  intro q hq
  rcases qQ.1 hq with rfl|hq
  ·exact hr
  ·exact rte_range hW ht n _ (by omega) (step_range hW hr ht) q hq
def bor (a b:Int):Int:=((a.toNat ||| b.toNat:Nat):Int)
def hasB (x b:Int):Prop:=x.toNat&&&b.toNat≠0
instance (x b:Int):Decidable (hasB x b):=by unfold hasB;infer_instance
theorem hasB_bor (a b c:Int):hasB (bor a b) c<->hasB a c\/hasB b c:=by
 unfold hasB bor
 rw [jw,Nat.and_or_distrib_right]
 constructor
 ·intro h
  by_cases h1:a.toNat&&&c.toNat=0
  ·rw [h1,Nat.zero_or] at h;exact .inr h
  ·exact .inl h1
 ·intro h h2
  have:=Nat.or_eq_zero_iff.1 h2
  rcases h with h|h
  ·exact h this.1
  ·exact h this.2
theorem hasB_zero (c:Int):¬hasB 0 c:=by simp [hasB]
def isOut (b:Int):Prop:=b=1\/b=2\/b=4\/b=8\/b=16
theorem hasB_one {a b:Int}(ha:isOut a)(hb:isOut b):hasB a b<->a=b:=by
 unfold isOut at ha hb
 rcases ha with rfl|rfl|rfl|rfl|rfl<;>rcases hb with rfl|rfl|rfl|rfl|rfl<;>decide
theorem bor_lt {a b:Int}(ha:0<=a/\a<32)(hb:0<=b/\b<32):0<=bor a b/\bor a b<32:=by
 unfold bor
 have h1:a.toNat<2 ^ 5:=by omega
 have h2:b.toNat<2 ^ 5:=by omega
 have:=Nat.or_lt_two_pow h1 h2
 omega
def stepT (W t:Int)(out:List Int)(r:Int):List Int:=out.set r.toNat (bor (out[r.toNat]?.getD 0) (turnM W r t))
def wayT (W src:Int)(out:List Int)(t:Int):List Int:=(rte W src t).foldl (stepT W t) out
def treeM (W:Int)(n:Nat)(src:Int)(ts:List Int):List Int:=ts.foldl (wayT W src) (List.replicate n 0)
theorem stepT_length (W t:Int)(out:List Int)(r:Int):(stepT W t out r).length=out.length:=QF ..
theorem foldT_length (W t:Int):∀(l:List Int) (out:List Int),(l.foldl (stepT W t) out).length=out.length
 |[],_=>rfl
 |r::l,out=>by rw [Qp,foldT_length W t l,stepT_length]
theorem foldW_length (W src:Int):∀(ts:List Int) (out:List Int),(ts.foldl (wayT W src) out).length=out.length
 |[],_=>rfl
 |t::ts,out=>by rw [Qp,foldW_length W src ts];exact foldT_length W t _ out
theorem tree_length (W:Int)(n:Nat)(src:Int)(ts:List Int):(treeM W n src ts).length=n:=by
 unfold treeM
 rw [foldW_length,Qn]
def OutsOk (out:List Int):Prop:=∀x∈out,0<=x/\x<32
theorem turn_lt (W r t:Int):0<=turnM W r t/\turnM W r t<32:=by
 have:=turn_cases W r t
 omega
theorem stepT_ok {W t:Int}{out:List Int}(h:OutsOk out)(r:Int):OutsOk (stepT W t out r):=by
 intro x hx
 rcases Qq hx with hx|rfl
 ·exact h x hx
 ·refine bor_lt ?_ (turn_lt W r t)
  cases hg:out[r.toNat]? with
  |none=>simp
  |some y=>exact h y (qz hg)
theorem foldT_ok {W t:Int}:∀(l:List Int) {out:List Int},OutsOk out->OutsOk (l.foldl (stepT W t) out)
 |[],_,h=>h
 |r::l,_,h=>foldT_ok l (stepT_ok h r)
theorem foldW_ok {W src:Int}:∀(ts:List Int) {out:List Int},OutsOk out->OutsOk (ts.foldl (wayT W src) out)
 |[],_,h=>h
 |t::ts,_,h=>foldW_ok ts (foldT_ok _ h)
theorem tree_ok (W:Int)(n:Nat)(src:Int)(ts:List Int):OutsOk (treeM W n src ts):=
 foldW_ok ts fun x hx=>by rw [QD hx];omega
def hasR (out:List Int)(r b:Int):Prop:=hasB (out[r.toNat]?.getD 0) b
theorem stepT_has {W t:Int}{out:List Int}{r q b:Int}(hq:0<=q)(hr:0<=r/\r.toNat<out.length)(hb:isOut b):hasR (stepT W t out r) q b<->hasR out q b\/(q=r/\turnM W r t=b):=by
 unfold hasR stepT
 by_cases h:q=r
 ·subst h
  rw [QZ hr.2,qY,hasB_bor,hasB_one (turn_cases W q t) hb]
  simp
 ·rw [List.getElem?_set_ne (by omega)]
  simp [h]
theorem foldT_has {W t b:Int}(hb:isOut b){q:Int}(hq:0<=q):∀(l:List Int) {out:List Int},(∀r∈l,0<=r/\r.toNat<out.length)->(hasR (l.foldl (stepT W t) out) q b<->hasR out q b\/(q∈l/\turnM W q t=b))
 |[],out,_=>by simp
 |r::l,out,h=>by
  rw [Qp,foldT_has hb hq l (fun x hx=>by rw [stepT_length];exact h x (qu _ hx)),stepT_has hq (h r qg) hb,qQ]
  constructor
  ·rintro ((h1|⟨rfl,h2⟩)|⟨h1,h2⟩)
   ·exact .inl h1
   ·exact .inr ⟨.inl rfl,h2⟩
   ·exact .inr ⟨.inr h1,h2⟩
  ·rintro (h1|⟨rfl|h1,h2⟩)
   ·exact .inl (.inl h1)
   ·exact .inl (.inr ⟨rfl,h2⟩)
   ·exact .inr ⟨h1,h2⟩
theorem foldW_has {W H src b:Int}(hW:0<W)(hs:0<=src/\src<W*H)(hb:isOut b){q:Int}(hq:0<=q):∀(ts:List Int) {out:List Int},out.length=(W*H).toNat->(∀t∈ts,0<=t/\t<W*H)->
  (hasR (ts.foldl (wayT W src) out) q b<->hasR out q b\/∃t∈ts,q∈rte W src t/\turnM W q t=b)
 |[],out,_,_=>by simp
 |t::ts,out,hl,h=>by
  have ht:=h t qg
  rw [Qp,foldW_has hW hs hb hq ts (by unfold wayT;rw [foldT_length];exact hl) (fun x hx=>h x (qu _ hx))]
  unfold wayT
  rw [foldT_has hb hq _ (fun r hr=>by have:=rte_range hW ht _ src rfl hs r hr;omega)]
  constructor
  ·rintro ((h1|⟨h1,h2⟩)|⟨u,h1,h2⟩)
   ·exact .inl h1
   ·exact .inr ⟨t,qg,h1,h2⟩
   ·exact .inr ⟨u,qu _ h1,h2⟩
  ·rintro (h1|⟨u,h1,h2⟩)
   ·exact .inl (.inl h1)
   ·rcases qQ.1 h1 with rfl|h1
    ·exact .inl (.inr h2)
    ·exact .inr ⟨u,h1,h2⟩
theorem tree_has {W H src b:Int}(hW:0<W)(hs:0<=src/\src<W*H)(hb:isOut b){q:Int}(hq:0<=q){ts:List Int}(h:∀t∈ts,0<=t/\t<W*H):
  hasR (treeM W (W*H).toNat src ts) q b<->∃t∈ts,q∈rte W src t/\turnM W q t=b:=by
 unfold treeM
 rw [foldW_has hW hs hb hq ts (Qn ..) h]
 constructor
 ·rintro (h1|h1)
  ·exfalso
   unfold hasR at h1
   cases hg:(List.replicate (W*H).toNat (0:Int))[q.toNat]? with
   |none=>rw [hg] at h1;exact hasB_zero _ h1
   |some y=>
    rw [hg,QD (qz hg)] at h1
    exact hasB_zero _ h1
  ·exact h1
 ·exact .inr
def linkN (x:Int):Nat:=([1,2,4,8]:List Int).countP fun b=>decide (hasB x b)
def linksM (tree:List Int):Nat:=(tree.map linkN).sum
def outsOf (r:Nat)(x:Int):List (Int×Int):=(([1,2,4,8,16]:List Int).filter fun b=>decide (hasB x b)).map fun b=>((r:Int),b)
def outsM (tree:List Int):List (Int×Int):=(tree.zipIdx.map fun x=>outsOf x.2 x.1).flatten
end Go.Gm
end
