import Derived.Test.YtlbekjokdlkghaaGreatChipMovesPp
import Derived.Test.YtlbekjokdlkghaaGreatChipMovesGa
import Derived.Test.YtlbekjokdlkghaaGreatChipMovesNa
import Derived.DeepKeys4
import Derived.KernelRfl
set_option linter.unusedVariables false
set_option linter.unusedSimpArgs false
set_option maxHeartbeats 4000000
section
namespace Go.Gm
theorem kQ0 {α:Type}{P:List α->Prop}(h0:P [])(h1:∀l x,P l->P (l++[x])):∀l,P l:=by
 intro l
 have key:∀n (l:List α),l.length=n->P l:=by
  intro n
  induction n with
  |zero=>intro l h;rw [qF h];exact h0
  |succ n ih=>
   intro l h
   have hne:l≠[]:=fun e=>by subst e;cases h
   rw [<-List.dropLast_concat_getLast hne]
   refine h1 _ _ (ih _ ?_)
   rw [List.length_dropLast];omega
 exact key _ l rfl
def kB5 (C:Chp)(l:List Syn)(cores:List Int)(i:Nat)(k:Int):Prop:=k∉C.dead/\(cQ4 cores k:Int)<C.nr/\(dP8 l cores k:Int)+fY8 l i<=C.sy
instance (C:Chp) (l:List Syn) (cores:List Int) (i:Nat) (k:Int):Decidable (kB5 C l cores i k):=by unfold kB5;infer_instance
def mV1 (C:Chp):List Int:=(List.range (bX1 C)).map fun (k:Nat)=>(k:Int)
theorem kK0 {C:Chp}{k:Int}:k∈mV1 C<->0<=k/\k<bX1 C:=by
 unfold mV1
 rw [qo]
 constructor
 ·rintro ⟨j,hj,rfl⟩
  rw [qL] at hj
  omega
 ·intro h
  exact ⟨k.toNat,qL.2 qZ,by omega⟩
def fitsR (C:Chp)(l:List Syn)(cores:List Int):Prop:=∀k:Nat,k<bX1 C->(cQ4 cores k:Int)<=C.nr/\(dP8 l cores k:Int)<=C.sy/\¬(0<cQ4 cores k/\(k:Int)∈C.dead)
instance (C:Chp) (l:List Syn) (cores:List Int):Decidable (fitsR C l cores):=by unfold fitsR;exact Nat.decidableBallLT _ _
structure SoFar (C:Chp) (l:List Syn) (cores:List Int):Prop where
 core:∀k∈cores,(0<=k/\k<bX1 C)/\k∉C.dead
 fits:cR5 C l cores
theorem hS5 {cores:List Int}{k:Int}:0<cQ4 cores k<->k∈cores:=by
 unfold cQ4
 rw [List.countP_pos_iff]
 constructor
 ·rintro ⟨a,ha,h⟩
  rw [jy] at h
  subst h;exact ha
 ·intro h;exact ⟨k,h,by simp⟩
theorem lX9 {C:Chp}{l:List Syn}{cores:List Int}(h:SoFar C l cores):fitsR C l cores:=fun k hk=>
 ⟨(h.fits k hk).1,(h.fits k hk).2,fun ⟨h1,h2⟩=>(h.core k (hS5.1 h1)).2 h2⟩
def lV8 (i:Int)(cores:List Int)(k:Int)(s:Syn):Prop:=(s.frm=i/\(0<=s.to/\s.to<cores.length)/\cores[s.to.toNat]? =some k)\/(s.to=i/\(0<=s.frm/\s.frm<cores.length)/\cores[s.frm.toNat]? =some k)
instance (i:Int) (cores:List Int) (k:Int) (s:Syn):Decidable (lV8 i cores k s):=by unfold lV8;infer_instance
theorem SoFar.nil {C:Chp}{l:List Syn}(h:ChpOk C):SoFar C l []:=by
 refine ⟨by simp,fun k hk=>?_⟩
 have e1:cQ4 [] (k:Int)=0:=rfl
 have e2:dP8 l [] (k:Int)=0:=by
  unfold dP8
  rw [List.countP_eq_zero]
  simp
 have:=h.nr
 have:=h.sy
 omega
def lW8 (N:Net)(i key:Int):Prop:=key=i\/∃s∈N.syns,bG1 N s.frm=key/\s.to=i
instance (N:Net) (i key:Int):Decidable (lW8 N i key):=by unfold lW8;infer_instance
theorem cB9 (N:Net):(bX0 N).Nodup:=by
 unfold bX0
 refine List.Pairwise.filter _ ?_
 rw [List.pairwise_map]
 exact List.nodup_range.imp fun h e=>h qZ
end Go.Gm
end

section
namespace Go.Gm
def bG4 (w s:Int):Int:=if w<0 then -((2* -w+s - 1) / (2*s)) else (2*w+s - 1) / (2*s)
theorem hY7 {s:Int}(hs:1<=s):bG4 0 s=0:=by
 unfold bG4
 rw [jk qZ]
 exact Int.ediv_eq_zero_of_lt qZ qZ
theorem fF8 {u v s:Int}(h:u<=v)(hs:1<=s):bG4 u s<=bG4 v s:=by
 have hm:∀a b:Int,a<=b->(2*a+s - 1) / (2*s)<=(2*b+s - 1) / (2*s):=fun a b hab=>Int.ediv_le_ediv qZ qZ
 have hp:∀a:Int,0<=a->0<=(2*a+s - 1) / (2*s):=fun a ha=>Int.ediv_nonneg qZ qZ
 unfold bG4
 by_cases h1:u<0
 ·rw [jw h1]
  by_cases h2:v<0
  ·rw [jw h2]
   have:=hm (-v) (-u) qZ
   omega
  ·rw [jk h2]
   have:=hp (-u) qZ
   have:=hp v qZ
   omega
 ·rw [jk h1,jk qZ]
  exact hm u v h
theorem cY9 {w s:Int}(hs:1<=s):(0<=w->0<=bG4 w s/\bG4 w s<=w)/\(w<=0->w<=bG4 w s/\bG4 w s<=0):=by
 have key:∀a:Int,0<=a->0<=(2*a+s - 1) / (2*s)/\(2*a+s - 1) / (2*s)<=a:=by
  intro a ha
  refine ⟨Int.ediv_nonneg qZ qZ,?_⟩
  have:(2*a+s - 1) / (2*s)<a+1:=by
   rw [Int.ediv_lt_iff_lt_mul qZ]
   have e:(a+1)*(2*s)=2*(a*s)+2*s:=by rw [Int.add_mul,Int.one_mul,Int.mul_left_comm]
   have:a*1<=a*s:=Int.mul_le_mul_of_nonneg_left hs ha
   omega
  omega
 unfold bG4
 refine ⟨fun h=>?_,fun h=>?_⟩
 ·rw [jk qZ];exact key w h
 ·by_cases hw:w<0
  ·rw [jw hw];have:=key (-w) qZ;omega
  ·rw [jk hw]
   have:=key w qZ
   omega
theorem kJ1 {w:Int}(h: -32768<=w/\w<=32768):bG4 w 65537=0:=by
 unfold bG4
 split
 ·rw [Int.ediv_eq_zero_of_lt qZ qZ];rfl
 ·exact Int.ediv_eq_zero_of_lt qZ qZ
def okQ (half s w:Int):Prop:=(-half<=bG4 w s/\bG4 w s<=half - 1)/\(-32768<=bG4 w s*s/\bG4 w s*s<=32768)
instance (half s w:Int):Decidable (okQ half s w):=by unfold okQ;infer_instance
theorem kZ5 {half s:Int}(hh:1<=half)(hs:1<=s):okQ half s 0:=by
 unfold okQ
 rw [hY7 hs]
 omega
theorem kT8 {half s a b w:Int}(hs:1<=s)(ha:okQ half s a)(hb:okQ half s b)(h1:a<=w)(h2:w<=b):okQ half s w:=by
 unfold okQ at*
 have m1:=fF8 h1 hs
 have m2:=fF8 h2 hs
 have m3:bG4 a s*s<=bG4 w s*s:=Int.mul_le_mul_of_nonneg_right m1 qZ
 have m4:bG4 w s*s<=bG4 b s*s:=Int.mul_le_mul_of_nonneg_right m2 qZ
 omega
def dX8 (l:List Syn)(i:Int):List Int:=(l.filter fun s=>decide (s.to=i)).map (·.wt)
def loM (l:List Syn)(i:Int):Int:=(dX8 l i).foldl min 0
def hiM (l:List Syn)(i:Int):Int:=(dX8 l i).foldl max 0
theorem bR1:∀(l:List Int) (a:Int),l.foldl min a<=a/\∀x∈l,l.foldl min a<=x
 |[],a=>⟨Int.le_refl _,by simp⟩
 |y::l,a=>by
  obtain ⟨h1,h2⟩:=bR1 l (min a y)
  refine ⟨?_,fun x hx=>?_⟩
  ·rw [Qp];omega
  ·rw [Qp]
   rcases qQ.1 hx with rfl|hx
   ·omega
   ·exact h2 x hx
theorem bR2:∀(l:List Int) (a:Int),a<=l.foldl max a/\∀x∈l,x<=l.foldl max a
 |[],a=>⟨Int.le_refl _,by simp⟩
 |y::l,a=>by
  obtain ⟨h1,h2⟩:=bR2 l (max a y)
  refine ⟨?_,fun x hx=>?_⟩
  ·rw [Qp];omega
  ·rw [Qp]
   rcases qQ.1 hx with rfl|hx
   ·omega
   ·exact h2 x hx
theorem cX9:∀(l:List Int) (a:Int),l.foldl min a=a\/l.foldl min a∈l
 |[],a=>.inl rfl
 |y::l,a=>by
  rw [Qp]
  rcases cX9 l (min a y) with h|h
  ·rw [h]
   rcases Int.le_total a y with h2|h2
   ·rw [Int.min_eq_left h2];exact .inl rfl
   ·rw [Int.min_eq_right h2];exact .inr qg
  ·exact .inr (qu _ h)
theorem cZ0:∀(l:List Int) (a:Int),l.foldl max a=a\/l.foldl max a∈l
 |[],a=>.inl rfl
 |y::l,a=>by
  rw [Qp]
  rcases cZ0 l (max a y) with h|h
  ·rw [h]
   rcases Int.le_total a y with h2|h2
   ·rw [Int.max_eq_right h2];exact .inr qg
   ·rw [Int.max_eq_left h2];exact .inl rfl
  ·exact .inr (qu _ h)
def okS (l:List Syn)(half i s:Int):Prop:=∀w∈dX8 l i,okQ half s w
instance (l:List Syn) (half i s:Int):Decidable (okS l half i s):=by unfold okS;infer_instance
theorem kZ4 {l:List Syn}{half i s:Int}(hh:1<=half)(hs:1<=s):okS l half i s<->okQ half s (loM l i)/\okQ half s (hiM l i):=by
 have h0:=kZ5 hh hs
 constructor
 ·intro h
  refine ⟨?_,?_⟩
  ·rcases cX9 (dX8 l i) 0 with e|e
   ·unfold loM;rw [e];exact h0
   ·exact h _ e
  ·rcases cZ0 (dX8 l i) 0 with e|e
   ·unfold hiM;rw [e];exact h0
   ·exact h _ e
 ·rintro ⟨h1,h2⟩ w hw
  exact kT8 hs h1 h2 ((bR1 _ _).2 w hw) ((bR2 _ _).2 w hw)
def gX4 (lo hi s half:Int):Prop:=bG4 lo s≥ -half/\bG4 hi s<half/\bG4 lo s*s≥ -32768/\bG4 hi s*s<=32768
instance (lo hi s half:Int):Decidable (gX4 lo hi s half):=by unfold gX4;infer_instance
theorem kW8 {l:List Syn}{half i s:Int}(hh:1<=half)(hs:1<=s):gX4 (loM l i) (hiM l i) s half<->okS l half i s:=by
 rw [kZ4 hh hs]
 have h1:loM l i<=0:=(bR1 _ _).1
 have h2:0<=hiM l i:=(bR2 _ _).1
 have n1:=(cY9 (w:=loM l i) hs).2 h1
 have n2:=(cY9 (w:=hiM l i) hs).1 h2
 have m1:bG4 (loM l i) s*s<=0:=Int.mul_nonpos_of_nonpos_of_nonneg qZ qZ
 have m2:0<=bG4 (hiM l i) s*s:=Int.mul_nonneg qZ qZ
 unfold gX4 okQ
 omega
def dQ6 (p:Nat->Bool):Nat->Nat->Nat
 |0,s=>s
 |n+1,s=>if p s then s else dQ6 p n (s+1)
theorem dH0 {p:Nat->Bool}:∀(n s:Nat),p (s+n)=true->p (dQ6 p n s)=true/\s<=dQ6 p n s/\dQ6 p n s<=s+n/\∀k,s<=k->k<dQ6 p n s->p k=false
 |0,s,h=>⟨h,qA _,qA _,fun k h1 h2=>by simp only [dQ6] at h2;omega⟩
 |n+1,s,h=>by
  rw [dQ6]
  by_cases hp:p s=true
  ·rw [jw hp]
   exact ⟨hp,qA _,by omega,fun k h1 h2=>by omega⟩
  ·rw [jk hp]
   obtain ⟨h1,h2,h3,h4⟩:=dH0 (p:=p) n (s+1) (by rw [Nat.add_assoc,Nat.add_comm 1 n];exact h)
   refine ⟨h1,by omega,by omega,fun k h5 h6=>?_⟩
   by_cases hk:k=s
   ·subst hk;simpa using hp
   ·exact h4 k qZ h6
def cL5 (l:List Syn)(half:Int)(i:Nat):Nat:=dQ6 (fun s=>decide (okS l half (i:Int) (s:Int))) 65536 1
def lX8 (l:List Syn):Prop:=∀s∈l, -32768<=s.wt/\s.wt<=32768
theorem cM9 {l:List Syn}{i w:Int}:w∈dX8 l i<->∃s∈l,s.to=i/\s.wt=w:=by
 unfold dX8
 simp only [qo,qP,jy]
 constructor
 ·rintro ⟨s,⟨h1,h2⟩,h3⟩;exact ⟨s,h1,h2,h3⟩
 ·rintro ⟨s,h1,h2,h3⟩;exact ⟨s,⟨h1,h2⟩,h3⟩
theorem dN9 {l:List Syn}(hl:lX8 l){half:Int}(hh:2<=half)(i:Nat):
  okS l half i (cL5 l half i)/\1<=cL5 l half i/\cL5 l half i<=65537/\∀k:Nat,1<=k->k<cL5 l half i->¬okS l half i k:=by
 have h:=dH0 (p:=fun s=>decide (okS l half (i:Int) (s:Int))) 65536 1 (by
  rw [jy]
  intro w hw
  obtain ⟨s,hs,_,rfl⟩:=cM9.1 hw
  have h0:bG4 s.wt ((1+65536:Nat):Int)=0:=kJ1 (hl s hs)
  unfold okQ
  rw [h0]
  omega)
 unfold cL5
 obtain ⟨h1,h2,h3,h4⟩:=h
 rw [jy] at h1
 exact ⟨h1,h2,by omega,fun k hk1 hk2=>by have:=h4 k hk1 hk2;rwa [decide_eq_false_iff_not] at this⟩
def bL1 (Z:List Int)(s:Syn):Int:=bG4 s.wt (Z[s.to.toNat]?.getD 1)
def gS9 (Z:List Int)(s:Syn):Int:=max (s.wt - bL1 Z s*(Z[s.to.toNat]?.getD 1)) (-(s.wt - bL1 Z s*(Z[s.to.toNat]?.getD 1)))
def fN7 (Z:List Int)(s:Syn):Syn:=⟨s.frm,s.to,bL1 Z s*(Z[s.to.toNat]?.getD 1),s.dl⟩
def kY2 (Z:List Int)(l:List Syn)(i:Nat):Int:=((l.filter fun s=>decide (s.to=(i:Int))).map (gS9 Z)).foldl max 0
structure Qnt where
 syns:List Syn
 scales:List Int
 quots:List Int
 errs:List Int
 exact:Bool
def bW6 (bits:Int):Int:=2 ^ (bits.toNat - 1)
def bX2 (N:Net)(half:Int):List Int:=(List.range N.ps.length).map fun i=>(cL5 N.syns half i:Int)
def hV4 (N:Net)(bits:Int):Qnt:=
 let Z:=bX2 N (bW6 bits)
 ⟨N.syns.map (fN7 Z),Z,N.syns.map (bL1 Z),(List.range N.ps.length).map (kY2 Z N.syns),N.syns.all fun s=>decide (gS9 Z s=0)⟩
theorem gX3 {bits:Int}(h:2<=bits/\bits<=16):2<=bW6 bits/\bW6 bits<=32768:=by
 obtain ⟨b,rfl⟩:∃b:Nat,bits=b:=⟨bits.toNat,by omega⟩
 unfold bW6
 rw [jf]
 have h1:1<=b - 1:=by omega
 have h2:b - 1<=15:=by omega
 have e:((2:Int) ^ (b - 1))=((2 ^ (b - 1):Nat):Int):=by simp
 rw [e]
 have g1:2 ^ 1<=2 ^ (b - 1):=Nat.pow_le_pow_right qZ h1
 have g2:2 ^ (b - 1)<=2 ^ 15:=Nat.pow_le_pow_right qZ h2
 omega
end Go.Gm
end

section
namespace Go.Gm
structure RowE where
 key:Int
 slot:Int
 wt:Int
 dl:Int
 deriving DecidableEq
def cD8 (cores:List Int)(i:Nat):Int:=(cQ4 (cores.take i) (cores[i]?.getD 0):Nat)
def bM0 (cores:List Int):List Int:=(List.range cores.length).map (cD8 cores)
def cM1 (N:Net)(cores:List Int)(s:Syn)(q:Int):RowE:=⟨bG1 N s.frm,(bM0 cores)[s.to.toNat]?.getD 0,q,s.dl⟩
def bM1 (N:Net)(cores:List Int)(l:List (Syn×Int))(k:Int):List RowE:=(l.filter fun x=>decide (cores[x.1.to.toNat]? =some k)).map fun x=>cM1 N cores x.1 x.2
theorem dC1 {N:Net}{cores:List Int}{l:List (Syn×Int)}{x:Syn×Int}(k:Int):bM1 N cores (l++[x]) k=bM1 N cores l k++if cores[x.1.to.toNat]? =some k then [cM1 N cores x.1 x.2] else []:=by
 unfold bM1
 rw [Qa,ql]
 congr 1
 by_cases h:cores[x.1.to.toNat]? =some k<;>simp [h]
abbrev Out:=Int×Int
def bG5 (o:Out):Prop:=0<=o.1/\bC8 o.2
def bS5 (ts:List (List Int))(o:Out):Nat:=ts.countP fun t=>decide (bH9 (t[o.1.toNat]?.getD 0) o.2)
theorem dB3 (ts:List (List Int))(t:List Int)(o:Out):bS5 (ts++[t]) o=bS5 ts o+if bH9 (t[o.1.toNat]?.getD 0) o.2 then 1 else 0:=by
 unfold bS5
 rw [List.countP_append]
 by_cases h:bH9 (t[o.1.toNat]?.getD 0) o.2<;>simp [h]
theorem dT1 {r:Nat}{x:Int}{o:Out}:o∈gY3 r x<->o.1=(r:Int)/\bC8 o.2/\bH9 x o.2:=by
 unfold gY3 bC8
 obtain ⟨a,b⟩:=o
 simp only [qo,qP,qQ,jq,or_false,jy,Prod.mk.injEq]
 constructor
 ·rintro ⟨c,⟨h1,h2⟩,rfl,rfl⟩
  exact ⟨rfl,h1,h2⟩
 ·rintro ⟨rfl,h1,h2⟩
  exact ⟨b,⟨h1,h2⟩,rfl,rfl⟩
theorem bL3 {t:List Int}{o:Out}:o∈gN4 t<->bG5 o/\bH9 (t[o.1.toNat]?.getD 0) o.2:=by
 unfold gN4 bG5
 rw [List.mem_flatten]
 constructor
 ·rintro ⟨l,hl,ho⟩
  obtain ⟨x,hx,rfl⟩:=qo.1 hl
  obtain ⟨h1,h2,h3⟩:=dT1.1 ho
  have:=List.mem_zipIdx hx
  have e:o.1.toNat=x.2:=by omega
  rw [e]
  have hg:t[x.2]? =some x.1:=by
   have h5:=List.mem_zipIdx_iff_getElem?.1 hx
   simpa using h5
  rw [hg]
  exact ⟨⟨by omega,h2⟩,h3⟩
 ·rintro ⟨⟨h1,h2⟩,h3⟩
  cases hg:t[o.1.toNat]? with
  |none=>rw [hg] at h3;exact absurd h3 (bM5 _)
  |some x=>
   rw [hg] at h3
   exact ⟨gY3 o.1.toNat x,qo.2 ⟨(x,o.1.toNat),List.mem_zipIdx_iff_getElem?.2 (by simpa using hg),rfl⟩,dT1.2 ⟨by omega,h2,h3⟩⟩
structure IsMost (ts:List (List Int)) (m:Nat):Prop where
 le:∀o,bG5 o->bS5 ts o<=m
 ex:m=0\/∃o,bG5 o/\bS5 ts o=m
theorem IsMost.uniq {ts:List (List Int)}{m n:Nat}(h1:IsMost ts m)(h2:IsMost ts n):m=n:=by
 have a:m<=n:=by
  rcases h1.ex with h|⟨o,ho,h⟩
  ·omega
  ·rw [<-h];exact h2.le o ho
 have b:n<=m:=by
  rcases h2.ex with h|⟨o,ho,h⟩
  ·omega
  ·rw [<-h];exact h1.le o ho
 omega
def bJ7:List (List Int)->Nat
 |[]=>0
 |ts@(_::_)=>((ts.map gN4).flatten.map fun o=>bS5 ts o).foldl max 0
theorem bL7:∀(l:List Nat) (a:Nat),a<=l.foldl max a/\(∀x∈l,x<=l.foldl max a)/\(l.foldl max a=a\/l.foldl max a∈l)
 |[],a=>⟨qA _,by simp,.inl rfl⟩
 |y::l,a=>by
  obtain ⟨h1,h2,h3⟩:=bL7 l (max a y)
  rw [Qp]
  refine ⟨by omega,fun x hx=>?_,?_⟩
  ·rcases qQ.1 hx with rfl|hx
   ·omega
   ·exact h2 x hx
  ·rcases h3 with h|h
   ·by_cases hay:a<=y
    ·rw [h,Nat.max_eq_right hay];exact .inr qg
    ·rw [h,Nat.max_eq_left qZ];exact .inl rfl
   ·exact .inr (qu _ h)
theorem bP4 (ts:List (List Int)):IsMost ts (bJ7 ts):=by
 cases ts with
 |nil=>exact ⟨fun o _=>qA _,.inl rfl⟩
 |cons t r=>
  obtain ⟨h1,h2,h3⟩:=bL7 (((t::r).map gN4).flatten.map fun o=>bS5 (t::r) o) 0
  refine ⟨fun o ho=>?_,?_⟩
  ·by_cases hc:bS5 (t::r) o=0
   ·omega
   ·refine h2 _ (qo.2 ⟨o,?_,rfl⟩)
    have hp:0<bS5 (t::r) o:=by omega
    unfold bS5 at hp
    rw [List.countP_pos_iff] at hp
    obtain ⟨u,hu,hh⟩:=hp
    rw [jy] at hh
    exact List.mem_flatten.2 ⟨gN4 u,qo.2 ⟨u,hu,rfl⟩,bL3.2 ⟨ho,hh⟩⟩
  ·rcases h3 with h|h
   ·exact .inl h
   ·obtain ⟨o,ho,he⟩:=qo.1 h
    obtain ⟨l,hl,hol⟩:=List.mem_flatten.1 ho
    obtain ⟨u,_,rfl⟩:=qo.1 hl
    exact .inr ⟨o,(bL3.1 hol).1,he⟩
def bP0 (room:Int)(ts:List (List Int))(t:List Int):Bool:=(gN4 t).all fun o=>decide ((bS5 ts o:Int)<room)
theorem hX3 {room:Int}{ts:List (List Int)}{t:List Int}(h:(bJ7 ts:Int)<=room)(h1:1<=room):bP0 room ts t=true<->(bJ7 (ts++[t]):Int)<=room:=by
 unfold bP0
 rw [List.all_eq_true]
 constructor
 ·intro ha
  rcases (bP4 (ts++[t])).ex with he|⟨o,ho,he⟩
  ·omega
  ·rw [<-he,dB3]
   have hle:=(bP4 ts).le o ho
   split
   ·rename_i hb
    have:=of_decide_eq_true (ha o (bL3.2 ⟨ho,hb⟩))
    omega
   ·omega
 ·intro hm o ho
  have ho2:=bL3.1 ho
  have:=(bP4 (ts++[t])).le o ho2.1
  rw [dB3,jw ho2.2] at this
  rw [jy]
  omega
def bB8 (T:Int->List Int)(room:Int)(ws:List (List Int))(key:Int):List (List Int):=
 match ws.findIdx? fun w=>bP0 room (w.map T) (T key) with
 |some k=>ws.modify k (· ++[key])
 |none=>ws++[[key]]
def bT6 (T:Int->List Int)(room:Int)(keys:List Int):List (List Int):=keys.foldl (bB8 T room) []
def bW0 (ws:List (List Int))(key:Int):Int:=
 match ws.findIdx? fun w=>decide (key∈w) with
 |some k=>(k:Int)
 |none=> -1
def bW9 (W:Int)(home:Int->Int)(tg:Int->List Int)(w:List Int):Nat:=(w.flatMap fun key=>(tg key).map fun t=>bG0 W (home key) t).foldl max 0
def dN7 (W:Int)(T:Int->List Int)(home:Int->Int)(tg:Int->List Int)(ws:List (List Int)):Nat:=(ws.map fun w=>(bW9 W home tg w+1)*bJ7 (w.map T)).sum
structure Ety where
 key:Int
 mask:Int
 outs:Int
 deriving DecidableEq
def cC0 (T:Int->List Int)(r:Nat)(key:Int):Option Ety:=
 let x:=(T key)[r]?.getD 0
 if x=0 then none else some ⟨key,65535,x⟩
def bW3 (T:Int->List Int)(keys:List Int)(r:Nat):List Ety:=keys.filterMap (cC0 T r)
def fM7 (a b:Int):Int:=((a.toNat&&&b.toNat:Nat):Int)
def gZ3 (a b:Int):Int:=((a.toNat ^^^ b.toNat:Nat):Int)
def bT1 (a b:Int):Int:=((a.toNat - (a.toNat&&&b.toNat):Nat):Int)
def bH0 (l:List Ety)(key:Int):Option Int:=(l.find? fun x=>decide (fM7 key x.mask=x.key)).map (·.outs)
def gQ8 (d:Int):Prop:=∃i:Nat,i<16/\d=((2 ^ i:Nat):Int)
instance (d:Int):Decidable (gQ8 d):=by unfold gQ8;exact Nat.decidableExistsLT _
def fX6 (x y:Ety):Option Ety:=if x.mask≠y.mask\/x.outs≠y.outs\/¬gQ8 (gZ3 x.key y.key) then none else some ⟨bT1 x.key (gZ3 x.key y.key),bT1 x.mask (gZ3 x.key y.key),x.outs⟩
def cK6 (a b:List Ety)(keys:List Int):Bool:=keys.all fun k=>decide (bH0 a k=bH0 b k)
def bY7 (l:List Ety)(k j:Nat)(x:Ety):List Ety:=(l.eraseIdx j).set k x
def dG2 (n:Nat):List (Nat×Nat):=(List.range n).flatMap fun k=>((List.range n).filter fun j=>decide (k<j)).map fun j=>(k,j)
def hT7 (want l:List Ety)(keys:List Int)(p:Nat×Nat):Option (List Ety):=
 match l[p.1]?,l[p.2]? with
 |some x,some y=>match fX6 x y with
  |some z=>if cK6 want (bY7 l p.1 p.2 z) keys=true then some (bY7 l p.1 p.2 z) else none
  |none=>none
 |_,_=>none
def bK2 (want l:List Ety)(keys:List Int):Option (List Ety):=(dG2 l.length).findSome? (hT7 want l keys)
def dQ4 (want:List Ety)(keys:List Int):Nat->List Ety->List Ety
 |0,l=>l
 |n+1,l=>match bK2 want l keys with
  |some t=>dQ4 want keys n t
  |none=>l
def dQ3 (l:List Ety)(keys:List Int):List Ety:=dQ4 l keys l.length l
end Go.Gm
end

section
namespace Go.Proofs
open Go Go.Vx Go.Gm
structure KeyTy {α:Type} (T:TypeId) (A:α->Value) (wf:α->Prop):Prop where
 law:WideMaps.KeyLaw Tryz.prog T
 key:∀x,wf x->∃l,keyOf Tryz.prog T (A x)=some l
 inj:∀x y,A x=A y->x=y
structure MapF {α β:Type} (A:α->Value) (wf:α->Prop) (V:β->Value) (m:List (Value×Value)) (f:α->Option β):Prop where
 only:∀p∈m,∃x v,wf x/\f x=some v/\p=(A x,V v)
 has:∀x v,f x=some v->∃p∈m,p.1=A x
 nodup:(m.map (·.1)).Nodup
section
variable {α β : Type} {T : TypeId} {A : α -> Value} {wf : α -> Prop} {V : β -> Value} {m : List (Value × Value)} {f : α -> Option β} {H : HP} {b : Nat} {u : Ent -> HP} {r : HP}
theorem MapF.nil:MapF A wf V [] fun _=>none:=⟨by simp,fun x v h=>(by cases h),by simp⟩
theorem MapF.congr (h:MapF A wf V m f){g:α->Option β}(e:∀x,g x=f x):MapF A wf V m g:=by
 have:g=f:=funext e
 rw [this];exact h
theorem MapF.keys (K:KeyTy T A wf)(h:MapF A wf V m f):∀p∈m,∃l,keyOf Tryz.prog T p.1=some l:=by
 intro p hp
 obtain ⟨x,v,hx,_,rfl⟩:=h.only p hp
 exact K.key x hx
theorem MapF.at_ (K:KeyTy T A wf)(h:MapF A wf V m f){x:α}{j:Nat}{v:Value}(hj:m[j]? =some (A x,v)):∃y,f x=some y/\v=V y:=by
 obtain ⟨z,y,_,h1,h2⟩:=h.only _ (qz hj)
 simp only [Prod.mk.injEq] at h2
 rw [K.inj _ _ h2.1]
 exact ⟨y,h1,h2.2⟩
theorem MapF.absent (K:KeyTy T A wf)(h:MapF A wf V m f){x:α}(hn:∀p∈m,p.1≠A x):f x=none:=by
 cases he:f x with
 |none=>rfl
 |some v=>
  obtain ⟨p,hp,h1⟩:=h.has x v he
  exact absurd h1 (hn p hp)
theorem MapF.get (K:KeyTy T A wf)(hat:At H (.mapk b m) u r)(h:MapF A wf V m f)(x:α)(hx:wf x){k:Option Value->Prop}
  (h0:f x=none->k none) (h1:∀y,f x=some y->k (some (V y))):VLkK Tryz.prog T H b (A x) k:=
 .mk hat K.law (K.key x hx) (h.keys K) (fun hn=>h0 (h.absent K hn)) (fun j v hj=>by
  obtain ⟨y,h2,rfl⟩:=h.at_ K hj
  exact h1 y h2)
theorem MapF.push (K:KeyTy T A wf)(h:MapF A wf V m f)[DecidableEq α]{x:α}(hx:wf x)(y:β)(hn:∀p∈m,p.1≠A x):MapF A wf V (m++[(A x,V y)]) fun z=>if z=x then some y else f z:=by
 refine ⟨fun p hp=>?_,fun z v hz=>?_,?_⟩
 ·rcases qH.1 hp with hp|hp
  ·obtain ⟨z,v,h1,h2,rfl⟩:=h.only p hp
   have hne:¬z=x:=fun e=>hn _ hp (by rw [e])
   exact ⟨z,v,h1,by rw [jk hne];exact h2,rfl⟩
  ·rw [qt] at hp
   exact ⟨x,y,hx,by rw [jw rfl],hp⟩
 ·by_cases e:z=x
  ·exact ⟨(A x,V y),by simp,by rw [e]⟩
  ·rw [jk e] at hz
   obtain ⟨p,hp,h1⟩:=h.has z v hz
   exact ⟨p,QW _ hp,h1⟩
 ·rw [ql,Qe]
  refine ⟨h.nodup,by simp,fun a ha c hc=>?_⟩
  obtain ⟨p,hp,rfl⟩:=qo.1 ha
  simp only [qI,QA,qt] at hc
  rw [hc]
  exact hn p hp
theorem MapF.set (K:KeyTy T A wf)(h:MapF A wf V m f)[DecidableEq α]{x:α}(hx:wf x)(y:β){j:Nat}{v0:Value}(hj:m[j]? =some (A x,v0)):MapF A wf V (m.set j (A x,V y)) fun z=>if z=x then some y else f z:=by
 refine ⟨fun p hp=>?_,fun z v hz=>?_,?_⟩
 ·obtain ⟨i,hi⟩:=jh hp
  rw [qO] at hi
  by_cases hji:j=i
  ·rw [jw hji] at hi
   split at hi
   ·cases hi
    exact ⟨x,y,hx,by rw [jw rfl],rfl⟩
   ·cases hi
  ·rw [jk hji] at hi
   obtain ⟨z,v,h1,h2,rfl⟩:=h.only p (qz hi)
   by_cases e:z=x
   ·subst e
    have e1:(m.map (·.1))[j]? =some (A z):=by rw [qj,hj];rfl
    have e2:(m.map (·.1))[i]? =some (A z):=by rw [qj,hi];rfl
    exact absurd ((List.getElem?_inj (qx.1 e1).1 h.nodup).1 (e1.trans e2.symm)) hji
   ·exact ⟨z,v,h1,by rw [jk e];exact h2,rfl⟩
 ·by_cases e:z=x
  ·refine ⟨(A x,V y),qz (i:=j) ?_,by rw [e]⟩
   rw [qO,jw rfl,jw (qx.1 hj).1]
  ·rw [jk e] at hz
   obtain ⟨p,hp,h1⟩:=h.has z v hz
   obtain ⟨i,hi⟩:=jh hp
   have hji:¬j=i:=by
    intro hji
    subst hji
    rw [hj] at hi
    cases hi
    exact e (K.inj _ _ h1.symm)
   refine ⟨p,qz (i:=i) ?_,h1⟩
   rw [qO,jk hji,hi]
 ·have:(m.set j (A x,V y)).map (·.1)=m.map (·.1):=by
   rw [List.map_set]
   apply qp
   intro i
   rw [qO]
   by_cases hji:j=i
   ·subst hji
    have hlt:=(qx.1 hj).1
    rw [jw rfl,jw (by rw [qv];exact hlt),qj,hj];rfl
   ·rw [jk hji]
  rw [this]
  exact h.nodup
theorem MapF.put (K:KeyTy T A wf)[DecidableEq α](hat:At H (.mapk b m) u r)(h:MapF A wf V m f)(x:α)(hx:wf x)(y:β){k:HP->Prop}
  (hk:∀m',(MapF A wf V m' fun z=>if z=x then some y else f z)->k (u (.mapk b m'))):VUpK Tryz.prog T H b (A x) (V y) k:=
 .mk hat K.law (K.key x hx) (h.keys K) (fun hn=>hk _ (h.push K hx y hn)) (fun j v0 hj=>hk _ (h.set K hx y hj))
theorem MapF.erase (K:KeyTy T A wf)(h:MapF A wf V m f)[DecidableEq α]{x:α}{j:Nat}{v0:Value}(hj:m[j]? =some (A x,v0)):MapF A wf V (m.eraseIdx j) fun z=>if z=x then .none else f z:=by
 have hsub:(m.eraseIdx j).map (·.1)=(m.map (·.1)).eraseIdx j:=by
  have hme:∀{γ δ:Type} (g:γ->δ) (l:List γ) (i:Nat),(l.eraseIdx i).map g=(l.map g).eraseIdx i:=by
   intro γ δ g l
   induction l with
   |nil=>intro i;simp
   |cons x r ih=>intro i;cases i<;>simp [ih]
  exact hme ..
 have e1:(m.map (·.1))[j]? =some (A x):=by rw [qj,hj];rfl
 refine ⟨fun p hp=>?_,fun z v hz=>?_,?_⟩
 ·obtain ⟨i,hi⟩:=jh hp
  rw [List.getElem?_eraseIdx] at hi
  obtain ⟨q,hq,hne⟩:∃q,m[q]? =some p/\q≠j:=by
   split at hi
   ·exact ⟨i,hi,by omega⟩
   ·exact ⟨i+1,hi,by omega⟩
  obtain ⟨z,v,h1,h2,rfl⟩:=h.only p (qz hq)
  have e:¬z=x:=by
   intro e
   subst e
   have e2:(m.map (·.1))[q]? =some (A z):=by rw [qj,hq];rfl
   exact hne ((List.getElem?_inj (qx.1 e2).1 h.nodup).1 (e2.trans e1.symm))
  exact ⟨z,v,h1,by rw [jk e];exact h2,rfl⟩
 ·by_cases e:z=x
  ·rw [jw e] at hz;cases hz
  ·rw [jk e] at hz
   obtain ⟨p,hp,h1⟩:=h.has z v hz
   obtain ⟨i,hi⟩:=jh hp
   have hji:i≠j:=by
    intro hji
    subst hji
    rw [hj] at hi
    cases hi
    exact e (K.inj _ _ h1.symm)
   refine ⟨p,?_,h1⟩
   by_cases hlt:i<j
   ·exact qz (i:=i) (by rw [List.getElem?_eraseIdx,jw hlt];exact hi)
   ·exact qz (i:=i - 1) (by rw [List.getElem?_eraseIdx,jk qZ,show i - 1+1=i by omega];exact hi)
 ·rw [hsub]
  exact h.nodup.sublist (List.eraseIdx_sublist ..)
theorem kH8 (K:KeyTy T A wf)[DecidableEq α](hat:At H (.mapk b m) u r)(h:MapF A wf V m f)(x:α)(hx:wf x){k:HP->Prop}
  (hk:∀m',(MapF A wf V m' fun z=>if z=x then .none else f z)->k (u (.mapk b m'))):VDlK Tryz.prog T H b (A x) k:=
 .mk hat K.law (K.key x hx) (h.keys K) (fun hn=>hk _ (h.congr fun z=>by
  by_cases e:z=x
  ·rw [jw e,e,h.absent K hn]
  ·rw [jk e])) (fun j v0 hj=>hk _ (h.erase K hj))
structure Bare [DecidableEq α] (A:α->Value) (wf:α->Prop) (V:β->Value) (x:α) (z:β) (es:Array MapEntry) (clock st:Nat) (f:α->Option β):Prop where
 stamped:MapKept.Stamped es clock
 ok:∃(m:List (Value×Value)) (j:Nat) (v:Value) (e:MapEntry),es.toList.map (fun x=>(x.key,x.val))=m/\m[j]? =some (A x,v)/\es.toList[j]? =some e/\e.born=st/\MapF A wf V m (fun y=>if y=x then some ((f x).getD z) else f y)
theorem MapF.entry (K:KeyTy T A wf)[DecidableEq α](hat:At H (.mapk b m) u r)(h:MapF A wf V m f)(x:α)(hx:wf x)(z:β){k:Value->HP->Prop}
  (hk:∀es clock st,Bare A wf V x z es clock st f->k (.tuple #[V ((f x).getD z),.int .i64 (st:Int)]) (u (.obj b (.map es clock)))):VMpE Tryz.prog T (V z) H b (A x) k:=by
 refine .mk hat K.law (K.key x hx) (h.keys K) (fun hn es clock st h1 h2 ⟨e,h3,h4⟩=>?_) (fun j v hj es clock st h1 h2 ⟨e,h3,h4⟩=>?_)
 ·have h0:=h.absent K hn
  have:=hk es clock st ⟨h2,_,m.length,V z,e,h1,by simp,h3,h4,by rw [h0];exact h.push K hx z hn⟩
  rw [h0] at this
  exact this
 ·obtain ⟨y,h5,rfl⟩:=h.at_ K hj
  have:=hk es clock st ⟨h2,_,j,V y,e,h1,hj,h3,h4,h.congr fun q=>by
   by_cases e:q=x
   ·rw [jw e,e,h5];rfl
   ·rw [jk e]⟩
  rw [h5] at this
  exact this
theorem Bare.get (K:KeyTy T A wf)[DecidableEq α]{x:α}{z:β}{es:Array MapEntry}{clock st:Nat}(hat:At H (.obj b (.map es clock)) u r)(h:Bare A wf V x z es clock st f)(hx:wf x){k:Option Value->Prop}
  (hk:k (some (V ((f x).getD z)))):VLkK Tryz.prog T H b (A x) k:=by
 obtain ⟨hst,m,j,v,e,h1,h2,h3,h4,h5⟩:=h
 refine .obj hat h1 hst K.law (K.key x hx) (h5.keys K) (fun hn=>?_) (fun i v hi=>?_)
 ·have:=h5.absent K hn
  rw [jw rfl] at this
  cases this
 ·obtain ⟨y,h6,rfl⟩:=h5.at_ K hi
  rw [jw rfl] at h6
  cases h6
  exact hk
theorem Bare.store (K:KeyTy T A wf)[DecidableEq α]{x:α}{z:β}{es:Array MapEntry}{clock st:Nat}(hat:At H (.obj b (.map es clock)) u r)(h:Bare A wf V x z es clock st f)(hx:wf x)(y:β){k:HP->Prop}
  (hk:∀m',(MapF A wf V m' fun q=>if q=x then some y else f q)->k (u (.mapk b m'))):VEnS H b (st:Int) (V y) k:=by
 obtain ⟨hst,m,j,v,e,h1,h2,h3,h4,h5⟩:=h
 have hek:e.key=A x:=by
  have:=congrArg (fun l=>l[j]?) h1
  simp only [qj,h3,h2] at this
  simp only [qV,qK,Prod.mk.injEq] at this
  exact this.1
 refine .mk hat h1 hst h3 (by rw [h4]) (hk _ ?_)
 rw [hek]
 exact (h5.set K hx y h2).congr fun q=>by
  by_cases e:q=x
  ·rw [jw e,jw e]
  ·rw [jk e,jk e,jk e]
end
theorem Tryz.laidK:laidOutB Tryz.prog=true:=by kernel_rfl
theorem Tryz.cellsIK:Tryz.prog.cellsOf 3=1:=by kernel_rfl
theorem Tryz.undIK:Tryz.prog.underlying 3=some (.int .i64):=by kernel_rfl
theorem kS0 (n:Int)(hn:I64 n):(Lit.int .i64 n).wf=true:=by
 unfold I64 at hn
 simp only [Lit.wf,Qd,jy]
 exact hn
theorem bM3 (d:Nat)(n:Int)(hn:I64 n):Tryz.prog.keyLits (d+1) 3 [.int .i64 n]=some [.int .i64 n]:=by
 unfold Program.keyLits
 rw [Tryz.undIK]
 simp only [true_and]
 rw [jw (kS0 n hn)]
def dV5 (fs:List (Nat×TypeId))(ok:Bool):Bool:=decide (fs=[(0,3),(1,3)])&&ok
theorem kS3 {T : TypeId} (hrow : T < Tryz.prog.types.size) (hdeep : Tryz.prog.keyType T = true) (hf : (match Tryz.prog.underlying T with | some (.struct fs) => dV5 (fs.toList.map fun f => (f.offset, f.type)) (fs.all (·.name != "_")) | _ => false) = true)
  (hc:Tryz.prog.cellsOf T=2) (a b:Int) (ha:I64 a) (hb:I64 b):∃l,keyOf Tryz.prog T (.agg #[.int .i64 a,.int .i64 b])=some l:=by
 have hpos:∃d,Tryz.prog.types.size+1=d+2:=⟨Tryz.prog.types.size - 1,by have h:0<Tryz.prog.types.size:=Nat.lt_of_le_of_lt (qB _) hrow;omega⟩
 obtain ⟨d,hd⟩:=hpos
 unfold keyOf
 rw [hdeep,hd]
 cases hu:Tryz.prog.underlying T with
 |none=>rw [hu] at hf;cases hf
 |some td=>
  rw [hu] at hf
  cases td<;>try (cases hf;done)
  rename_i fs
  simp only [dV5,Qd,jy] at hf
  obtain ⟨h1,h2⟩:=hf
  have hform:(Value.agg #[.int .i64 a,.int .i64 b]).formed Tryz.prog T=true:=by
   simp [Value.formed,hu,hc]
  simp only [hform,Bool.and_self,if_true]
  unfold Program.keyLits
  rw [hu]
  dsimp only
  have h3:(Value.agg #[.int .i64 a,.int .i64 b]).cells.toList=[.int .i64 a,.int .i64 b]:=rfl
  rw [h3,jw ⟨by rw [hc];rfl,h2⟩]
  obtain ⟨L,hL⟩:=gX (fs.toList)
  rw [hL] at h1 ⊢
  rcases L with _|⟨f,_|⟨g,_|⟨e,L⟩⟩⟩
  ·simp at h1
  ·simp at h1
  rotate_left
  ·simp at h1
  ·simp only [qI,QA,List.cons.injEq,Prod.mk.injEq,and_true] at h1
   obtain ⟨⟨f1,f2⟩,g1,g2⟩:=h1
   simp only [List.mapM_cons,List.mapM_nil,f1,f2,g1,g2,Tryz.cellsIK,List.drop_zero,List.drop_succ_cons,List.take_succ_cons,QU]
   rw [bM3 d a ha,bM3 d b hb]
   exact ⟨_,rfl⟩
def fN9 (o:Out):Value:=.agg #[.int .i64 o.1,.int .i64 o.2]
theorem kZ3 (x y:Out)(h:fN9 x=fN9 y):x=y:=by
 obtain ⟨a,b⟩:=x
 obtain ⟨c,d⟩:=y
 simp only [fN9,Value.agg.injEq,Array.mk.injEq,List.cons.injEq,Value.int.injEq,true_and,and_true] at h
 rw [h.1,h.2]
def outW (o:Out):Prop:=bG5 o/\o.1<65536
theorem outW.i64 {o:Out}(h:outW o):I64 o.1/\I64 o.2:=by
 obtain ⟨⟨h1,h2⟩,h3⟩:=h
 unfold bC8 at h2
 unfold I64
 omega
theorem Tryz.rowO:(243:TypeId)<Tryz.prog.types.size:=of_decide_eq_true (by kernel_rfl)
theorem Tryz.kindO:(match Tryz.prog.underlying 243 with|some (.array _ _)|some (.struct _)=>true|_=>false)=true:=by kernel_rfl
set_option maxRecDepth 100000 in
theorem Tryz.lawO:WideMaps.KeyLaw Tryz.prog 243:=deep_law_laid Tryz.laidK (m:=2) qZ Tryz.rowO (by kernel_rfl) Tryz.kindO
set_option maxRecDepth 100000 in
theorem Tryz.deepO:Tryz.prog.keyType 243=true:=by kernel_rfl
theorem Tryz.fldO : (match Tryz.prog.underlying 243 with | some (.struct fs) => dV5 (fs.toList.map fun f => (f.offset, f.type)) (fs.all (·.name != "_")) | _ => false) = true := by kernel_rfl
theorem Tryz.cellsO:Tryz.prog.cellsOf 243=2:=by kernel_rfl
theorem kS4:KeyTy 243 fN9 outW:=⟨Tryz.lawO,fun x hx=>kS3 Tryz.rowO Tryz.deepO Tryz.fldO Tryz.cellsO x.1 x.2 hx.i64.1 hx.i64.2,kZ3⟩
instance (o:Out):Decidable (bG5 o):=by unfold bG5 bC8;infer_instance
instance (o:Out):Decidable (outW o):=by unfold outW;infer_instance
def fL1 (n:Nat):Value:=.int .i64 (n:Int)
abbrev CntOf (m:List (Value×Value)) (c:Out->Nat):Prop:=MapF fN9 outW fL1 m fun o=>if outW o/\c o≠0 then some (c o) else none
theorem CntOf.nil:CntOf [] fun _=>0:=MapF.nil.congr fun o=>by simp
theorem CntOf.same {m:List (Value×Value)}{c d:Out->Nat}(h:CntOf m c)(e:∀o,outW o->d o=c o):CntOf m d:=MapF.congr h fun o=>by
 by_cases hw:outW o
 ·rw [e o hw]
 ·rw [jk (fun x=>hw x.1),jk (fun x=>hw x.1)]
theorem fN4 {m:List (Value×Value)}{c:Out->Nat}{o:Out}(hw:outW o)(h:MapF fN9 outW fL1 m fun q=>if q=o then some (c o+1) else if outW q/\c q≠0 then some (c q) else none):CntOf m fun q=>if q=o then c o+1 else c q:=
 MapF.congr h fun q=>by
  by_cases e:q=o
  ·subst e
   simp [hw]
  ·simp [e]
theorem CntOf.val {c:Out->Nat}{o:Out}(hw:outW o):(if outW o/\c o≠0 then some (c o) else none).getD 0=c o:=by
 by_cases h:c o=0
 ·rw [jk (fun x=>x.2 h),h];rfl
 ·rw [jw ⟨hw,h⟩];rfl
end Go.Proofs
end
