import Derived.Test.YtlbekjokdlkghaaGreatChipSamePp
import Derived.Test.YtlbekjokdlkghaaGreatChipSameGa
import Derived.Test.YtlbekjokdlkghaaGreatChipSameNa
import Derived.DeepKeys4
import Derived.KernelRfl
set_option linter.unusedVariables false
set_option linter.unusedSimpArgs false
set_option maxHeartbeats 4000000
section
namespace Go.Gm
theorem snoc_ind {α:Type}{P:List α->Prop}(h0:P [])(h1:∀l x,P l->P (l++[x])):∀l,P l:=by
 intro l
 have key:∀n (l:List α),l.length=n->P l:=by
  intro n
  induction n with
  |zero=>intro l h;rw [qF h];exact h0
  |succ n ih=>
   intro l h
   have hne:l≠[]:=fun e=>by subst e;cases h
   rw [<-List.dropLast_concat_getLast hne]
   refine h1 _ _ (ih _ ?_)
   rw [List.length_dropLast];omega
 exact key _ l rfl
def spaceP (C:Chp)(l:List Syn)(cores:List Int)(i:Nat)(k:Int):Prop:=k∉C.dead/\(useN cores k:Int)<C.nr/\(useR l cores k:Int)+rowN l i<=C.sy
instance (C:Chp) (l:List Syn) (cores:List Int) (i:Nat) (k:Int):Decidable (spaceP C l cores i k):=by unfold spaceP;infer_instance
def allC (C:Chp):List Int:=(List.range (nCores C)).map fun (k:Nat)=>(k:Int)
theorem mem_allC {C:Chp}{k:Int}:k∈allC C<->0<=k/\k<nCores C:=by
 unfold allC
 rw [qo]
 constructor
 ·rintro ⟨j,hj,rfl⟩
  rw [qL] at hj
  omega
 ·intro h
  exact ⟨k.toNat,qL.2 (by omega),by omega⟩
def fitsR (C:Chp)(l:List Syn)(cores:List Int):Prop:=∀k:Nat,k<nCores C->(useN cores k:Int)<=C.nr/\(useR l cores k:Int)<=C.sy/\¬(0<useN cores k/\(k:Int)∈C.dead)
instance (C:Chp) (l:List Syn) (cores:List Int):Decidable (fitsR C l cores):=by unfold fitsR;exact Nat.decidableBallLT _ _
structure SoFar (C:Chp) (l:List Syn) (cores:List Int):Prop where
 core:∀k∈cores,(0<=k/\k<nCores C)/\k∉C.dead
 fits:fitsA C l cores
theorem useN_pos {cores:List Int}{k:Int}:0<useN cores k<->k∈cores:=by
 unfold useN
 rw [List.countP_pos_iff]
 constructor
 ·rintro ⟨a,ha,h⟩
  rw [jw] at h
  subst h;exact ha
 ·intro h;exact ⟨k,h,by simp⟩
theorem SoFar.fitsR {C:Chp}{l:List Syn}{cores:List Int}(h:SoFar C l cores):fitsR C l cores:=fun k hk=>
 ⟨(h.fits k hk).1,(h.fits k hk).2,fun ⟨h1,h2⟩=>(h.core k (useN_pos.1 h1)).2 h2⟩
def near1 (i:Int)(cores:List Int)(k:Int)(s:Syn):Prop:=(s.frm=i/\(0<=s.to/\s.to<cores.length)/\cores[s.to.toNat]? =some k)\/(s.to=i/\(0<=s.frm/\s.frm<cores.length)/\cores[s.frm.toNat]? =some k)
instance (i:Int) (cores:List Int) (k:Int) (s:Syn):Decidable (near1 i cores k s):=by unfold near1;infer_instance
theorem SoFar.nil {C:Chp}{l:List Syn}(h:ChpOk C):SoFar C l []:=by
 refine ⟨by simp,fun k hk=>?_⟩
 have e1:useN [] (k:Int)=0:=rfl
 have e2:useR l [] (k:Int)=0:=by
  unfold useR
  rw [List.countP_eq_zero]
  simp
 have:=h.nr
 have:=h.sy
 omega
def hangs (N:Net)(i key:Int):Prop:=key=i\/∃s∈N.syns,keyM N s.frm=key/\s.to=i
instance (N:Net) (i key:Int):Decidable (hangs N i key):=by unfold hangs;infer_instance
theorem keysM_nodup (N:Net):(keysM N).Nodup:=by
 unfold keysM
 refine List.Pairwise.filter _ ?_
 rw [List.pairwise_map]
 exact List.nodup_range.imp fun h e=>h (by omega)
end Go.Gm
end

section
namespace Go.Gm
def nearM (w s:Int):Int:=if w<0 then -((2* -w+s - 1) / (2*s)) else (2*w+s - 1) / (2*s)
theorem near_zero {s:Int}(hs:1<=s):nearM 0 s=0:=by
 unfold nearM
 rw [jv (by omega)]
 exact Int.ediv_eq_zero_of_lt (by omega) (by omega)
theorem near_mono {u v s:Int}(h:u<=v)(hs:1<=s):nearM u s<=nearM v s:=by
 have hm:∀a b:Int,a<=b->(2*a+s - 1) / (2*s)<=(2*b+s - 1) / (2*s):=fun a b hab=>Int.ediv_le_ediv (by omega) (by omega)
 have hp:∀a:Int,0<=a->0<=(2*a+s - 1) / (2*s):=fun a ha=>Int.ediv_nonneg (by omega) (by omega)
 unfold nearM
 by_cases h1:u<0
 ·rw [jk h1]
  by_cases h2:v<0
  ·rw [jk h2]
   have:=hm (-v) (-u) (by omega)
   omega
  ·rw [jv h2]
   have:=hp (-u) (by omega)
   have:=hp v (by omega)
   omega
 ·rw [jv h1,jv (by omega)]
  exact hm u v h
theorem near_small {w s:Int}(hs:1<=s):(0<=w->0<=nearM w s/\nearM w s<=w)/\(w<=0->w<=nearM w s/\nearM w s<=0):=by
 have key:∀a:Int,0<=a->0<=(2*a+s - 1) / (2*s)/\(2*a+s - 1) / (2*s)<=a:=by
  intro a ha
  refine ⟨Int.ediv_nonneg (by omega) (by omega),?_⟩
  have:(2*a+s - 1) / (2*s)<a+1:=by
   rw [Int.ediv_lt_iff_lt_mul (by omega)]
   have e:(a+1)*(2*s)=2*(a*s)+2*s:=by rw [Int.add_mul,Int.one_mul,Int.mul_left_comm]
   have:a*1<=a*s:=Int.mul_le_mul_of_nonneg_left hs ha
   omega
  omega
 unfold nearM
 refine ⟨fun h=>?_,fun h=>?_⟩
 ·rw [jv (by omega)];exact key w h
 ·by_cases hw:w<0
  ·rw [jk hw];have:=key (-w) (by omega);omega
  ·rw [jv hw]
   have:=key w (by omega)
   omega
theorem near_far {w:Int}(h: -32768<=w/\w<=32768):nearM w 65537=0:=by
 unfold nearM
 split
 ·rw [Int.ediv_eq_zero_of_lt (by omega) (by omega)];rfl
 ·exact Int.ediv_eq_zero_of_lt (by omega) (by omega)
def okQ (half s w:Int):Prop:=(-half<=nearM w s/\nearM w s<=half - 1)/\(-32768<=nearM w s*s/\nearM w s*s<=32768)
instance (half s w:Int):Decidable (okQ half s w):=by unfold okQ;infer_instance
theorem okQ_zero {half s:Int}(hh:1<=half)(hs:1<=s):okQ half s 0:=by
 unfold okQ
 rw [near_zero hs]
 omega
theorem okQ_mid {half s a b w:Int}(hs:1<=s)(ha:okQ half s a)(hb:okQ half s b)(h1:a<=w)(h2:w<=b):okQ half s w:=by
 unfold okQ at*
 have m1:=near_mono h1 hs
 have m2:=near_mono h2 hs
 have m3:nearM a s*s<=nearM w s*s:=Int.mul_le_mul_of_nonneg_right m1 (by omega)
 have m4:nearM w s*s<=nearM b s*s:=Int.mul_le_mul_of_nonneg_right m2 (by omega)
 omega
def wtsTo (l:List Syn)(i:Int):List Int:=(l.filter fun s=>decide (s.to=i)).map (·.wt)
def loM (l:List Syn)(i:Int):Int:=(wtsTo l i).foldl min 0
def hiM (l:List Syn)(i:Int):Int:=(wtsTo l i).foldl max 0
theorem foldl_min_le:∀(l:List Int) (a:Int),l.foldl min a<=a/\∀x∈l,l.foldl min a<=x
 |[],a=>⟨Int.le_refl _,by simp⟩
 |y::l,a=>by
  obtain ⟨h1,h2⟩:=foldl_min_le l (min a y)
  refine ⟨?_,fun x hx=>?_⟩
  ·rw [Qp];omega
  ·rw [Qp]
   rcases qQ.1 hx with rfl|hx
   ·omega
   ·exact h2 x hx
theorem foldl_max_ge:∀(l:List Int) (a:Int),a<=l.foldl max a/\∀x∈l,x<=l.foldl max a
 |[],a=>⟨Int.le_refl _,by simp⟩
 |y::l,a=>by
  obtain ⟨h1,h2⟩:=foldl_max_ge l (max a y)
  refine ⟨?_,fun x hx=>?_⟩
  ·rw [Qp];omega
  ·rw [Qp]
   rcases qQ.1 hx with rfl|hx
   ·omega
   ·exact h2 x hx
theorem foldl_min_mem:∀(l:List Int) (a:Int),l.foldl min a=a\/l.foldl min a∈l
 |[],a=>.inl rfl
 |y::l,a=>by
  rw [Qp]
  rcases foldl_min_mem l (min a y) with h|h
  ·rw [h]
   rcases Int.le_total a y with h2|h2
   ·rw [Int.min_eq_left h2];exact .inl rfl
   ·rw [Int.min_eq_right h2];exact .inr qg
  ·exact .inr (qu _ h)
theorem foldl_max_mem:∀(l:List Int) (a:Int),l.foldl max a=a\/l.foldl max a∈l
 |[],a=>.inl rfl
 |y::l,a=>by
  rw [Qp]
  rcases foldl_max_mem l (max a y) with h|h
  ·rw [h]
   rcases Int.le_total a y with h2|h2
   ·rw [Int.max_eq_right h2];exact .inr qg
   ·rw [Int.max_eq_left h2];exact .inl rfl
  ·exact .inr (qu _ h)
def okS (l:List Syn)(half i s:Int):Prop:=∀w∈wtsTo l i,okQ half s w
instance (l:List Syn) (half i s:Int):Decidable (okS l half i s):=by unfold okS;infer_instance
theorem okS_ends {l:List Syn}{half i s:Int}(hh:1<=half)(hs:1<=s):okS l half i s<->okQ half s (loM l i)/\okQ half s (hiM l i):=by
 have h0:=okQ_zero hh hs
 constructor
 ·intro h
  refine ⟨?_,?_⟩
  ·rcases foldl_min_mem (wtsTo l i) 0 with e|e
   ·unfold loM;rw [e];exact h0
   ·exact h _ e
  ·rcases foldl_max_mem (wtsTo l i) 0 with e|e
   ·unfold hiM;rw [e];exact h0
   ·exact h _ e
 ·rintro ⟨h1,h2⟩ w hw
  exact okQ_mid hs h1 h2 ((foldl_min_le _ _).2 w hw) ((foldl_max_ge _ _).2 w hw)
def fitsM (lo hi s half:Int):Prop:=nearM lo s≥ -half/\nearM hi s<half/\nearM lo s*s≥ -32768/\nearM hi s*s<=32768
instance (lo hi s half:Int):Decidable (fitsM lo hi s half):=by unfold fitsM;infer_instance
theorem fits_iff {l:List Syn}{half i s:Int}(hh:1<=half)(hs:1<=s):fitsM (loM l i) (hiM l i) s half<->okS l half i s:=by
 rw [okS_ends hh hs]
 have h1:loM l i<=0:=(foldl_min_le _ _).1
 have h2:0<=hiM l i:=(foldl_max_ge _ _).1
 have n1:=(near_small (w:=loM l i) hs).2 h1
 have n2:=(near_small (w:=hiM l i) hs).1 h2
 have m1:nearM (loM l i) s*s<=0:=Int.mul_nonpos_of_nonpos_of_nonneg (by omega) (by omega)
 have m2:0<=nearM (hiM l i) s*s:=Int.mul_nonneg (by omega) (by omega)
 unfold fitsM okQ
 omega
def leastF (p:Nat->Bool):Nat->Nat->Nat
 |0,s=>s
 |n+1,s=>if p s then s else leastF p n (s+1)
theorem leastF_spec {p:Nat->Bool}:∀(n s:Nat),p (s+n)=true->p (leastF p n s)=true/\s<=leastF p n s/\leastF p n s<=s+n/\∀k,s<=k->k<leastF p n s->p k=false
 |0,s,h=>⟨h,qA _,qA _,fun k h1 h2=>by simp only [leastF] at h2;omega⟩
 |n+1,s,h=>by
  rw [leastF]
  by_cases hp:p s=true
  ·rw [jk hp]
   exact ⟨hp,qA _,by omega,fun k h1 h2=>by omega⟩
  ·rw [jv hp]
   obtain ⟨h1,h2,h3,h4⟩:=leastF_spec (p:=p) n (s+1) (by rw [Nat.add_assoc,Nat.add_comm 1 n];exact h)
   refine ⟨h1,by omega,by omega,fun k h5 h6=>?_⟩
   by_cases hk:k=s
   ·subst hk;simpa using hp
   ·exact h4 k (by omega) h6
def scaleM (l:List Syn)(half:Int)(i:Nat):Nat:=leastF (fun s=>decide (okS l half (i:Int) (s:Int))) 65536 1
def WtsOk (l:List Syn):Prop:=∀s∈l, -32768<=s.wt/\s.wt<=32768
theorem mem_wtsTo {l:List Syn}{i w:Int}:w∈wtsTo l i<->∃s∈l,s.to=i/\s.wt=w:=by
 unfold wtsTo
 simp only [qo,qP,jw]
 constructor
 ·rintro ⟨s,⟨h1,h2⟩,h3⟩;exact ⟨s,h1,h2,h3⟩
 ·rintro ⟨s,h1,h2,h3⟩;exact ⟨s,⟨h1,h2⟩,h3⟩
theorem scale_spec {l:List Syn}(hl:WtsOk l){half:Int}(hh:2<=half)(i:Nat):
  okS l half i (scaleM l half i)/\1<=scaleM l half i/\scaleM l half i<=65537/\∀k:Nat,1<=k->k<scaleM l half i->¬okS l half i k:=by
 have h:=leastF_spec (p:=fun s=>decide (okS l half (i:Int) (s:Int))) 65536 1 (by
  rw [jw]
  intro w hw
  obtain ⟨s,hs,_,rfl⟩:=mem_wtsTo.1 hw
  have h0:nearM s.wt ((1+65536:Nat):Int)=0:=near_far (hl s hs)
  unfold okQ
  rw [h0]
  omega)
 unfold scaleM
 obtain ⟨h1,h2,h3,h4⟩:=h
 rw [jw] at h1
 exact ⟨h1,h2,by omega,fun k hk1 hk2=>by have:=h4 k hk1 hk2;rwa [decide_eq_false_iff_not] at this⟩
def quotS (Z:List Int)(s:Syn):Int:=nearM s.wt (Z[s.to.toNat]?.getD 1)
def offS (Z:List Int)(s:Syn):Int:=max (s.wt - quotS Z s*(Z[s.to.toNat]?.getD 1)) (-(s.wt - quotS Z s*(Z[s.to.toNat]?.getD 1)))
def synQ (Z:List Int)(s:Syn):Syn:=⟨s.frm,s.to,quotS Z s*(Z[s.to.toNat]?.getD 1),s.dl⟩
def errQ (Z:List Int)(l:List Syn)(i:Nat):Int:=((l.filter fun s=>decide (s.to=(i:Int))).map (offS Z)).foldl max 0
structure Qnt where
 syns:List Syn
 scales:List Int
 quots:List Int
 errs:List Int
 exact:Bool
def halfM (bits:Int):Int:=2 ^ (bits.toNat - 1)
def scalesM (N:Net)(half:Int):List Int:=(List.range N.ps.length).map fun i=>(scaleM N.syns half i:Int)
def quantM (N:Net)(bits:Int):Qnt:=
 let Z:=scalesM N (halfM bits)
 ⟨N.syns.map (synQ Z),Z,N.syns.map (quotS Z),(List.range N.ps.length).map (errQ Z N.syns),N.syns.all fun s=>decide (offS Z s=0)⟩
theorem half_ok {bits:Int}(h:2<=bits/\bits<=16):2<=halfM bits/\halfM bits<=32768:=by
 obtain ⟨b,rfl⟩:∃b:Nat,bits=b:=⟨bits.toNat,by omega⟩
 unfold halfM
 rw [jg]
 have h1:1<=b - 1:=by omega
 have h2:b - 1<=15:=by omega
 have e:((2:Int) ^ (b - 1))=((2 ^ (b - 1):Nat):Int):=by simp
 rw [e]
 have g1:2 ^ 1<=2 ^ (b - 1):=Nat.pow_le_pow_right (by omega) h1
 have g2:2 ^ (b - 1)<=2 ^ 15:=Nat.pow_le_pow_right (by omega) h2
 omega
end Go.Gm
end

section
namespace Go.Gm
structure RowE where
 key:Int
 slot:Int
 wt:Int
 dl:Int
 deriving DecidableEq
def slotAt (cores:List Int)(i:Nat):Int:=(useN (cores.take i) (cores[i]?.getD 0):Nat)
def slotsM (cores:List Int):List Int:=(List.range cores.length).map (slotAt cores)
def rowOf (N:Net)(cores:List Int)(s:Syn)(q:Int):RowE:=⟨keyM N s.frm,(slotsM cores)[s.to.toNat]?.getD 0,q,s.dl⟩
def rowsM (N:Net)(cores:List Int)(l:List (Syn×Int))(k:Int):List RowE:=(l.filter fun x=>decide (cores[x.1.to.toNat]? =some k)).map fun x=>rowOf N cores x.1 x.2
theorem rowsM_snoc {N:Net}{cores:List Int}{l:List (Syn×Int)}{x:Syn×Int}(k:Int):rowsM N cores (l++[x]) k=rowsM N cores l k++if cores[x.1.to.toNat]? =some k then [rowOf N cores x.1 x.2] else []:=by
 unfold rowsM
 rw [Qa,ql]
 congr 1
 by_cases h:cores[x.1.to.toNat]? =some k<;>simp [h]
abbrev Out:=Int×Int
def isOutO (o:Out):Prop:=0<=o.1/\isOut o.2
def cntM (ts:List (List Int))(o:Out):Nat:=ts.countP fun t=>decide (hasB (t[o.1.toNat]?.getD 0) o.2)
theorem cntM_snoc (ts:List (List Int))(t:List Int)(o:Out):cntM (ts++[t]) o=cntM ts o+if hasB (t[o.1.toNat]?.getD 0) o.2 then 1 else 0:=by
 unfold cntM
 rw [List.countP_append]
 by_cases h:hasB (t[o.1.toNat]?.getD 0) o.2<;>simp [h]
theorem mem_outsOf {r:Nat}{x:Int}{o:Out}:o∈outsOf r x<->o.1=(r:Int)/\isOut o.2/\hasB x o.2:=by
 unfold outsOf isOut
 obtain ⟨a,b⟩:=o
 simp only [qo,qP,qQ,jq,or_false,jw,Prod.mk.injEq]
 constructor
 ·rintro ⟨c,⟨h1,h2⟩,rfl,rfl⟩
  exact ⟨rfl,h1,h2⟩
 ·rintro ⟨rfl,h1,h2⟩
  exact ⟨b,⟨h1,h2⟩,rfl,rfl⟩
theorem mem_outsM {t:List Int}{o:Out}:o∈outsM t<->isOutO o/\hasB (t[o.1.toNat]?.getD 0) o.2:=by
 unfold outsM isOutO
 rw [List.mem_flatten]
 constructor
 ·rintro ⟨l,hl,ho⟩
  obtain ⟨x,hx,rfl⟩:=qo.1 hl
  obtain ⟨h1,h2,h3⟩:=mem_outsOf.1 ho
  have:=List.mem_zipIdx hx
  have e:o.1.toNat=x.2:=by omega
  rw [e]
  have hg:t[x.2]? =some x.1:=by
   have h5:=List.mem_zipIdx_iff_getElem?.1 hx
   simpa using h5
  rw [hg]
  exact ⟨⟨by omega,h2⟩,h3⟩
 ·rintro ⟨⟨h1,h2⟩,h3⟩
  cases hg:t[o.1.toNat]? with
  |none=>rw [hg] at h3;exact absurd h3 (hasB_zero _)
  |some x=>
   rw [hg] at h3
   exact ⟨outsOf o.1.toNat x,qo.2 ⟨(x,o.1.toNat),List.mem_zipIdx_iff_getElem?.2 (by simpa using hg),rfl⟩,mem_outsOf.2 ⟨by omega,h2,h3⟩⟩
structure IsMost (ts:List (List Int)) (m:Nat):Prop where
 le:∀o,isOutO o->cntM ts o<=m
 ex:m=0\/∃o,isOutO o/\cntM ts o=m
theorem IsMost.uniq {ts:List (List Int)}{m n:Nat}(h1:IsMost ts m)(h2:IsMost ts n):m=n:=by
 have a:m<=n:=by
  rcases h1.ex with h|⟨o,ho,h⟩
  ·omega
  ·rw [<-h];exact h2.le o ho
 have b:n<=m:=by
  rcases h2.ex with h|⟨o,ho,h⟩
  ·omega
  ·rw [<-h];exact h1.le o ho
 omega
def mostM:List (List Int)->Nat
 |[]=>0
 |ts@(_::_)=>((ts.map outsM).flatten.map fun o=>cntM ts o).foldl max 0
theorem foldl_maxN:∀(l:List Nat) (a:Nat),a<=l.foldl max a/\(∀x∈l,x<=l.foldl max a)/\(l.foldl max a=a\/l.foldl max a∈l)
 |[],a=>⟨qA _,by simp,.inl rfl⟩
 |y::l,a=>by
  obtain ⟨h1,h2,h3⟩:=foldl_maxN l (max a y)
  rw [Qp]
  refine ⟨by omega,fun x hx=>?_,?_⟩
  ·rcases qQ.1 hx with rfl|hx
   ·omega
   ·exact h2 x hx
  ·rcases h3 with h|h
   ·by_cases hay:a<=y
    ·rw [h,Nat.max_eq_right hay];exact .inr qg
    ·rw [h,Nat.max_eq_left (by omega)];exact .inl rfl
   ·exact .inr (qu _ h)
theorem mostM_is (ts:List (List Int)):IsMost ts (mostM ts):=by
 cases ts with
 |nil=>exact ⟨fun o _=>qA _,.inl rfl⟩
 |cons t r=>
  obtain ⟨h1,h2,h3⟩:=foldl_maxN (((t::r).map outsM).flatten.map fun o=>cntM (t::r) o) 0
  refine ⟨fun o ho=>?_,?_⟩
  ·by_cases hc:cntM (t::r) o=0
   ·omega
   ·refine h2 _ (qo.2 ⟨o,?_,rfl⟩)
    have hp:0<cntM (t::r) o:=by omega
    unfold cntM at hp
    rw [List.countP_pos_iff] at hp
    obtain ⟨u,hu,hh⟩:=hp
    rw [jw] at hh
    exact List.mem_flatten.2 ⟨outsM u,qo.2 ⟨u,hu,rfl⟩,mem_outsM.2 ⟨ho,hh⟩⟩
  ·rcases h3 with h|h
   ·exact .inl h
   ·obtain ⟨o,ho,he⟩:=qo.1 h
    obtain ⟨l,hl,hol⟩:=List.mem_flatten.1 ho
    obtain ⟨u,_,rfl⟩:=qo.1 hl
    exact .inr ⟨o,(mem_outsM.1 hol).1,he⟩
def takesM (room:Int)(ts:List (List Int))(t:List Int):Bool:=(outsM t).all fun o=>decide ((cntM ts o:Int)<room)
theorem takes_iff {room:Int}{ts:List (List Int)}{t:List Int}(h:(mostM ts:Int)<=room)(h1:1<=room):takesM room ts t=true<->(mostM (ts++[t]):Int)<=room:=by
 unfold takesM
 rw [List.all_eq_true]
 constructor
 ·intro ha
  rcases (mostM_is (ts++[t])).ex with he|⟨o,ho,he⟩
  ·omega
  ·rw [<-he,cntM_snoc]
   have hle:=(mostM_is ts).le o ho
   split
   ·rename_i hb
    have:=of_decide_eq_true (ha o (mem_outsM.2 ⟨ho,hb⟩))
    omega
   ·omega
 ·intro hm o ho
  have ho2:=mem_outsM.1 ho
  have:=(mostM_is (ts++[t])).le o ho2.1
  rw [cntM_snoc,jk ho2.2] at this
  rw [jw]
  omega
def waveAdd (T:Int->List Int)(room:Int)(ws:List (List Int))(key:Int):List (List Int):=
 match ws.findIdx? fun w=>takesM room (w.map T) (T key) with
 |some k=>ws.modify k (· ++[key])
 |none=>ws++[[key]]
def wavesM (T:Int->List Int)(room:Int)(keys:List Int):List (List Int):=keys.foldl (waveAdd T room) []
def waveOf (ws:List (List Int))(key:Int):Int:=
 match ws.findIdx? fun w=>decide (key∈w) with
 |some k=>(k:Int)
 |none=> -1
def reachM (W:Int)(home:Int->Int)(tg:Int->List Int)(w:List Int):Nat:=(w.flatMap fun key=>(tg key).map fun t=>distM W (home key) t).foldl max 0
def stepsM (W:Int)(T:Int->List Int)(home:Int->Int)(tg:Int->List Int)(ws:List (List Int)):Nat:=(ws.map fun w=>(reachM W home tg w+1)*mostM (w.map T)).sum
structure Ety where
 key:Int
 mask:Int
 outs:Int
 deriving DecidableEq
def etyAt (T:Int->List Int)(r:Nat)(key:Int):Option Ety:=
 let x:=(T key)[r]?.getD 0
 if x=0 then none else some ⟨key,65535,x⟩
def tableM (T:Int->List Int)(keys:List Int)(r:Nat):List Ety:=keys.filterMap (etyAt T r)
def band (a b:Int):Int:=((a.toNat&&&b.toNat:Nat):Int)
def bxor (a b:Int):Int:=((a.toNat ^^^ b.toNat:Nat):Int)
def bless (a b:Int):Int:=((a.toNat - (a.toNat&&&b.toNat):Nat):Int)
def findE (l:List Ety)(key:Int):Option Int:=(l.find? fun x=>decide (band key x.mask=x.key)).map (·.outs)
def isPow (d:Int):Prop:=∃i:Nat,i<16/\d=((2 ^ i:Nat):Int)
instance (d:Int):Decidable (isPow d):=by unfold isPow;exact Nat.decidableExistsLT _
def joinE (x y:Ety):Option Ety:=if x.mask≠y.mask\/x.outs≠y.outs\/¬isPow (bxor x.key y.key) then none else some ⟨bless x.key (bxor x.key y.key),bless x.mask (bxor x.key y.key),x.outs⟩
def sameE (a b:List Ety)(keys:List Int):Bool:=keys.all fun k=>decide (findE a k=findE b k)
def mergedAt (l:List Ety)(k j:Nat)(x:Ety):List Ety:=(l.eraseIdx j).set k x
def pairsM (n:Nat):List (Nat×Nat):=(List.range n).flatMap fun k=>((List.range n).filter fun j=>decide (k<j)).map fun j=>(k,j)
def tryE (want l:List Ety)(keys:List Int)(p:Nat×Nat):Option (List Ety):=
 match l[p.1]?,l[p.2]? with
 |some x,some y=>match joinE x y with
  |some z=>if sameE want (mergedAt l p.1 p.2 z) keys=true then some (mergedAt l p.1 p.2 z) else none
  |none=>none
 |_,_=>none
def mergeStep (want l:List Ety)(keys:List Int):Option (List Ety):=(pairsM l.length).findSome? (tryE want l keys)
def mergeF (want:List Ety)(keys:List Int):Nat->List Ety->List Ety
 |0,l=>l
 |n+1,l=>match mergeStep want l keys with
  |some t=>mergeF want keys n t
  |none=>l
def mergeM (l:List Ety)(keys:List Int):List Ety:=mergeF l keys l.length l
end Go.Gm
end

section
namespace Go.Proofs
open Go Go.Vx Go.Gm
structure KeyTy {α:Type} (T:TypeId) (A:α->Value) (wf:α->Prop):Prop where
 law:WideMaps.KeyLaw Tryz.prog T
 key:∀x,wf x->∃l,keyOf Tryz.prog T (A x)=some l
 inj:∀x y,A x=A y->x=y
structure MapF {α β:Type} (A:α->Value) (wf:α->Prop) (V:β->Value) (m:List (Value×Value)) (f:α->Option β):Prop where
 only:∀p∈m,∃x v,wf x/\f x=some v/\p=(A x,V v)
 has:∀x v,f x=some v->∃p∈m,p.1=A x
 nodup:(m.map (·.1)).Nodup
section
variable {α β : Type} {T : TypeId} {A : α -> Value} {wf : α -> Prop} {V : β -> Value} {m : List (Value × Value)} {f : α -> Option β} {H : HP} {b : Nat} {u : Ent -> HP} {r : HP}
theorem MapF.nil:MapF A wf V [] fun _=>none:=⟨by simp,fun x v h=>(by cases h),by simp⟩
theorem MapF.congr (h:MapF A wf V m f){g:α->Option β}(e:∀x,g x=f x):MapF A wf V m g:=by
 have:g=f:=funext e
 rw [this];exact h
theorem MapF.keys (K:KeyTy T A wf)(h:MapF A wf V m f):∀p∈m,∃l,keyOf Tryz.prog T p.1=some l:=by
 intro p hp
 obtain ⟨x,v,hx,_,rfl⟩:=h.only p hp
 exact K.key x hx
theorem MapF.at_ (K:KeyTy T A wf)(h:MapF A wf V m f){x:α}{j:Nat}{v:Value}(hj:m[j]? =some (A x,v)):∃y,f x=some y/\v=V y:=by
 obtain ⟨z,y,_,h1,h2⟩:=h.only _ (qz hj)
 simp only [Prod.mk.injEq] at h2
 rw [K.inj _ _ h2.1]
 exact ⟨y,h1,h2.2⟩
theorem MapF.absent (K:KeyTy T A wf)(h:MapF A wf V m f){x:α}(hn:∀p∈m,p.1≠A x):f x=none:=by
 cases he:f x with
 |none=>rfl
 |some v=>
  obtain ⟨p,hp,h1⟩:=h.has x v he
  exact absurd h1 (hn p hp)
theorem MapF.get (K:KeyTy T A wf)(hat:At H (.mapk b m) u r)(h:MapF A wf V m f)(x:α)(hx:wf x){k:Option Value->Prop}
  (h0:f x=none->k none) (h1:∀y,f x=some y->k (some (V y))):VLkK Tryz.prog T H b (A x) k:=
 .mk hat K.law (K.key x hx) (h.keys K) (fun hn=>h0 (h.absent K hn)) (fun j v hj=>by
  obtain ⟨y,h2,rfl⟩:=h.at_ K hj
  exact h1 y h2)
theorem MapF.push (K:KeyTy T A wf)(h:MapF A wf V m f)[DecidableEq α]{x:α}(hx:wf x)(y:β)(hn:∀p∈m,p.1≠A x):MapF A wf V (m++[(A x,V y)]) fun z=>if z=x then some y else f z:=by
 refine ⟨fun p hp=>?_,fun z v hz=>?_,?_⟩
 ·rcases qH.1 hp with hp|hp
  ·obtain ⟨z,v,h1,h2,rfl⟩:=h.only p hp
   have hne:¬z=x:=fun e=>hn _ hp (by rw [e])
   exact ⟨z,v,h1,by rw [jv hne];exact h2,rfl⟩
  ·rw [qt] at hp
   exact ⟨x,y,hx,by rw [jk rfl],hp⟩
 ·by_cases e:z=x
  ·exact ⟨(A x,V y),by simp,by rw [e]⟩
  ·rw [jv e] at hz
   obtain ⟨p,hp,h1⟩:=h.has z v hz
   exact ⟨p,QW _ hp,h1⟩
 ·rw [ql,Qe]
  refine ⟨h.nodup,by simp,fun a ha c hc=>?_⟩
  obtain ⟨p,hp,rfl⟩:=qo.1 ha
  simp only [qI,QA,qt] at hc
  rw [hc]
  exact hn p hp
theorem MapF.set (K:KeyTy T A wf)(h:MapF A wf V m f)[DecidableEq α]{x:α}(hx:wf x)(y:β){j:Nat}{v0:Value}(hj:m[j]? =some (A x,v0)):MapF A wf V (m.set j (A x,V y)) fun z=>if z=x then some y else f z:=by
 refine ⟨fun p hp=>?_,fun z v hz=>?_,?_⟩
 ·obtain ⟨i,hi⟩:=jf hp
  rw [qO] at hi
  by_cases hji:j=i
  ·rw [jk hji] at hi
   split at hi
   ·cases hi
    exact ⟨x,y,hx,by rw [jk rfl],rfl⟩
   ·cases hi
  ·rw [jv hji] at hi
   obtain ⟨z,v,h1,h2,rfl⟩:=h.only p (qz hi)
   by_cases e:z=x
   ·subst e
    have e1:(m.map (·.1))[j]? =some (A z):=by rw [qj,hj];rfl
    have e2:(m.map (·.1))[i]? =some (A z):=by rw [qj,hi];rfl
    exact absurd ((List.getElem?_inj (qx.1 e1).1 h.nodup).1 (e1.trans e2.symm)) hji
   ·exact ⟨z,v,h1,by rw [jv e];exact h2,rfl⟩
 ·by_cases e:z=x
  ·refine ⟨(A x,V y),qz (i:=j) ?_,by rw [e]⟩
   rw [qO,jk rfl,jk (qx.1 hj).1]
  ·rw [jv e] at hz
   obtain ⟨p,hp,h1⟩:=h.has z v hz
   obtain ⟨i,hi⟩:=jf hp
   have hji:¬j=i:=by
    intro hji
    subst hji
    rw [hj] at hi
    cases hi
    exact e (K.inj _ _ h1.symm)
   refine ⟨p,qz (i:=i) ?_,h1⟩
   rw [qO,jv hji,hi]
 ·have:(m.set j (A x,V y)).map (·.1)=m.map (·.1):=by
   rw [List.map_set]
   apply qp
   intro i
   rw [qO]
   by_cases hji:j=i
   ·subst hji
    have hlt:=(qx.1 hj).1
    rw [jk rfl,jk (by rw [qv];exact hlt),qj,hj];rfl
   ·rw [jv hji]
  rw [this]
  exact h.nodup
theorem MapF.put (K:KeyTy T A wf)[DecidableEq α](hat:At H (.mapk b m) u r)(h:MapF A wf V m f)(x:α)(hx:wf x)(y:β){k:HP->Prop}
  (hk:∀m',(MapF A wf V m' fun z=>if z=x then some y else f z)->k (u (.mapk b m'))):VUpK Tryz.prog T H b (A x) (V y) k:=
 .mk hat K.law (K.key x hx) (h.keys K) (fun hn=>hk _ (h.push K hx y hn)) (fun j v0 hj=>hk _ (h.set K hx y hj))
theorem MapF.erase (K:KeyTy T A wf)(h:MapF A wf V m f)[DecidableEq α]{x:α}{j:Nat}{v0:Value}(hj:m[j]? =some (A x,v0)):MapF A wf V (m.eraseIdx j) fun z=>if z=x then .none else f z:=by
 have hsub:(m.eraseIdx j).map (·.1)=(m.map (·.1)).eraseIdx j:=by
  have hme:∀{γ δ:Type} (g:γ->δ) (l:List γ) (i:Nat),(l.eraseIdx i).map g=(l.map g).eraseIdx i:=by
   intro γ δ g l
   induction l with
   |nil=>intro i;simp
   |cons x r ih=>intro i;cases i<;>simp [ih]
  exact hme ..
 have e1:(m.map (·.1))[j]? =some (A x):=by rw [qj,hj];rfl
 refine ⟨fun p hp=>?_,fun z v hz=>?_,?_⟩
 ·obtain ⟨i,hi⟩:=jf hp
  rw [List.getElem?_eraseIdx] at hi
  obtain ⟨q,hq,hne⟩:∃q,m[q]? =some p/\q≠j:=by
   split at hi
   ·exact ⟨i,hi,by omega⟩
   ·exact ⟨i+1,hi,by omega⟩
  obtain ⟨z,v,h1,h2,rfl⟩:=h.only p (qz hq)
  have e:¬z=x:=by
   intro e
   subst e
   have e2:(m.map (·.1))[q]? =some (A z):=by rw [qj,hq];rfl
   exact hne ((List.getElem?_inj (qx.1 e2).1 h.nodup).1 (e2.trans e1.symm))
  exact ⟨z,v,h1,by rw [jv e];exact h2,rfl⟩
 ·by_cases e:z=x
  ·rw [jk e] at hz;cases hz
  ·rw [jv e] at hz
   obtain ⟨p,hp,h1⟩:=h.has z v hz
   obtain ⟨i,hi⟩:=jf hp
   have hji:i≠j:=by
    intro hji
    subst hji
    rw [hj] at hi
    cases hi
    exact e (K.inj _ _ h1.symm)
   refine ⟨p,?_,h1⟩
   by_cases hlt:i<j
   ·exact qz (i:=i) (by rw [List.getElem?_eraseIdx,jk hlt];exact hi)
   ·exact qz (i:=i - 1) (by rw [List.getElem?_eraseIdx,jv (by omega),show i - 1+1=i by omega];exact hi)
 ·rw [hsub]
  exact h.nodup.sublist (List.eraseIdx_sublist ..)
theorem MapF.del (K:KeyTy T A wf)[DecidableEq α](hat:At H (.mapk b m) u r)(h:MapF A wf V m f)(x:α)(hx:wf x){k:HP->Prop}
  (hk:∀m',(MapF A wf V m' fun z=>if z=x then .none else f z)->k (u (.mapk b m'))):VDlK Tryz.prog T H b (A x) k:=
 .mk hat K.law (K.key x hx) (h.keys K) (fun hn=>hk _ (h.congr fun z=>by
  by_cases e:z=x
  ·rw [jk e,e,h.absent K hn]
  ·rw [jv e])) (fun j v0 hj=>hk _ (h.erase K hj))
structure Bare [DecidableEq α] (A:α->Value) (wf:α->Prop) (V:β->Value) (x:α) (z:β) (es:Array MapEntry) (clock st:Nat) (f:α->Option β):Prop where
 stamped:MapKept.Stamped es clock
 ok:∃(m:List (Value×Value)) (j:Nat) (v:Value) (e:MapEntry),es.toList.map (fun x=>(x.key,x.val))=m/\m[j]? =some (A x,v)/\es.toList[j]? =some e/\e.born=st/\MapF A wf V m (fun y=>if y=x then some ((f x).getD z) else f y)
theorem MapF.entry (K:KeyTy T A wf)[DecidableEq α](hat:At H (.mapk b m) u r)(h:MapF A wf V m f)(x:α)(hx:wf x)(z:β){k:Value->HP->Prop}
  (hk:∀es clock st,Bare A wf V x z es clock st f->k (.tuple #[V ((f x).getD z),.int .i64 (st:Int)]) (u (.obj b (.map es clock)))):VMpE Tryz.prog T (V z) H b (A x) k:=by
 refine .mk hat K.law (K.key x hx) (h.keys K) (fun hn es clock st h1 h2 ⟨e,h3,h4⟩=>?_) (fun j v hj es clock st h1 h2 ⟨e,h3,h4⟩=>?_)
 ·have h0:=h.absent K hn
  have:=hk es clock st ⟨h2,_,m.length,V z,e,h1,by simp,h3,h4,by rw [h0];exact h.push K hx z hn⟩
  rw [h0] at this
  exact this
 ·obtain ⟨y,h5,rfl⟩:=h.at_ K hj
  have:=hk es clock st ⟨h2,_,j,V y,e,h1,hj,h3,h4,h.congr fun q=>by
   by_cases e:q=x
   ·rw [jk e,e,h5];rfl
   ·rw [jv e]⟩
  rw [h5] at this
  exact this
theorem Bare.get (K:KeyTy T A wf)[DecidableEq α]{x:α}{z:β}{es:Array MapEntry}{clock st:Nat}(hat:At H (.obj b (.map es clock)) u r)(h:Bare A wf V x z es clock st f)(hx:wf x){k:Option Value->Prop}
  (hk:k (some (V ((f x).getD z)))):VLkK Tryz.prog T H b (A x) k:=by
 obtain ⟨hst,m,j,v,e,h1,h2,h3,h4,h5⟩:=h
 refine .obj hat h1 hst K.law (K.key x hx) (h5.keys K) (fun hn=>?_) (fun i v hi=>?_)
 ·have:=h5.absent K hn
  rw [jk rfl] at this
  cases this
 ·obtain ⟨y,h6,rfl⟩:=h5.at_ K hi
  rw [jk rfl] at h6
  cases h6
  exact hk
theorem Bare.store (K:KeyTy T A wf)[DecidableEq α]{x:α}{z:β}{es:Array MapEntry}{clock st:Nat}(hat:At H (.obj b (.map es clock)) u r)(h:Bare A wf V x z es clock st f)(hx:wf x)(y:β){k:HP->Prop}
  (hk:∀m',(MapF A wf V m' fun q=>if q=x then some y else f q)->k (u (.mapk b m'))):VEnS H b (st:Int) (V y) k:=by
 obtain ⟨hst,m,j,v,e,h1,h2,h3,h4,h5⟩:=h
 have hek:e.key=A x:=by
  have:=congrArg (fun l=>l[j]?) h1
  simp only [qj,h3,h2] at this
  simp only [qV,qK,Prod.mk.injEq] at this
  exact this.1
 refine .mk hat h1 hst h3 (by rw [h4]) (hk _ ?_)
 rw [hek]
 exact (h5.set K hx y h2).congr fun q=>by
  by_cases e:q=x
  ·rw [jk e,jk e]
  ·rw [jv e,jv e,jv e]
end
theorem Tryz.laidK:laidOutB Tryz.prog=true:=by kernel_rfl
theorem Tryz.cellsIK:Tryz.prog.cellsOf 3=1:=by kernel_rfl
theorem Tryz.undIK:Tryz.prog.underlying 3=some (.int .i64):=by kernel_rfl
theorem litIntK (n:Int)(hn:I64 n):(Lit.int .i64 n).wf=true:=by
 unfold I64 at hn
 simp only [Lit.wf,Qd,jw]
 exact hn
theorem keyLits_intK (d:Nat)(n:Int)(hn:I64 n):Tryz.prog.keyLits (d+1) 3 [.int .i64 n]=some [.int .i64 n]:=by
 unfold Program.keyLits
 rw [Tryz.undIK]
 simp only [true_and]
 rw [jk (litIntK n hn)]
def twoFields (fs:List (Nat×TypeId))(ok:Bool):Bool:=decide (fs=[(0,3),(1,3)])&&ok
theorem key_two {T : TypeId} (hrow : T < Tryz.prog.types.size) (hdeep : Tryz.prog.keyType T = true) (hf : (match Tryz.prog.underlying T with | some (.struct fs) => twoFields (fs.toList.map fun f => (f.offset, f.type)) (fs.all (·.name != "_")) | _ => false) = true)
  (hc:Tryz.prog.cellsOf T=2) (a b:Int) (ha:I64 a) (hb:I64 b):∃l,keyOf Tryz.prog T (.agg #[.int .i64 a,.int .i64 b])=some l:=by
 have hpos:∃d,Tryz.prog.types.size+1=d+2:=⟨Tryz.prog.types.size - 1,by have h:0<Tryz.prog.types.size:=Nat.lt_of_le_of_lt (qB _) hrow;omega⟩
 obtain ⟨d,hd⟩:=hpos
 unfold keyOf
 rw [hdeep,hd]
 cases hu:Tryz.prog.underlying T with
 |none=>rw [hu] at hf;cases hf
 |some td=>
  rw [hu] at hf
  cases td<;>try (cases hf;done)
  rename_i fs
  simp only [twoFields,Qd,jw] at hf
  obtain ⟨h1,h2⟩:=hf
  have hform:(Value.agg #[.int .i64 a,.int .i64 b]).formed Tryz.prog T=true:=by
   simp [Value.formed,hu,hc]
  simp only [hform,Bool.and_self,if_true]
  unfold Program.keyLits
  rw [hu]
  dsimp only
  have h3:(Value.agg #[.int .i64 a,.int .i64 b]).cells.toList=[.int .i64 a,.int .i64 b]:=rfl
  rw [h3,jk ⟨by rw [hc];rfl,h2⟩]
  obtain ⟨L,hL⟩:=gX (fs.toList)
  rw [hL] at h1 ⊢
  rcases L with _|⟨f,_|⟨g,_|⟨e,L⟩⟩⟩
  ·simp at h1
  ·simp at h1
  rotate_left
  ·simp at h1
  ·simp only [qI,QA,List.cons.injEq,Prod.mk.injEq,and_true] at h1
   obtain ⟨⟨f1,f2⟩,g1,g2⟩:=h1
   simp only [List.mapM_cons,List.mapM_nil,f1,f2,g1,g2,Tryz.cellsIK,List.drop_zero,List.drop_succ_cons,List.take_succ_cons,QU]
   rw [keyLits_intK d a ha,keyLits_intK d b hb]
   exact ⟨_,rfl⟩
def outA (o:Out):Value:=.agg #[.int .i64 o.1,.int .i64 o.2]
theorem outA_inj (x y:Out)(h:outA x=outA y):x=y:=by
 obtain ⟨a,b⟩:=x
 obtain ⟨c,d⟩:=y
 simp only [outA,Value.agg.injEq,Array.mk.injEq,List.cons.injEq,Value.int.injEq,true_and,and_true] at h
 rw [h.1,h.2]
def outW (o:Out):Prop:=isOutO o/\o.1<65536
theorem outW.i64 {o:Out}(h:outW o):I64 o.1/\I64 o.2:=by
 obtain ⟨⟨h1,h2⟩,h3⟩:=h
 unfold isOut at h2
 unfold I64
 omega
theorem Tryz.rowO:(243:TypeId)<Tryz.prog.types.size:=of_decide_eq_true (by kernel_rfl)
theorem Tryz.kindO:(match Tryz.prog.underlying 243 with|some (.array _ _)|some (.struct _)=>true|_=>false)=true:=by kernel_rfl
set_option maxRecDepth 100000 in
theorem Tryz.lawO:WideMaps.KeyLaw Tryz.prog 243:=deep_law_laid Tryz.laidK (m:=2) (by omega) Tryz.rowO (by kernel_rfl) Tryz.kindO
set_option maxRecDepth 100000 in
theorem Tryz.deepO:Tryz.prog.keyType 243=true:=by kernel_rfl
theorem Tryz.fldO : (match Tryz.prog.underlying 243 with | some (.struct fs) => twoFields (fs.toList.map fun f => (f.offset, f.type)) (fs.all (·.name != "_")) | _ => false) = true := by kernel_rfl
theorem Tryz.cellsO:Tryz.prog.cellsOf 243=2:=by kernel_rfl
theorem keyO:KeyTy 243 outA outW:=⟨Tryz.lawO,fun x hx=>key_two Tryz.rowO Tryz.deepO Tryz.fldO Tryz.cellsO x.1 x.2 hx.i64.1 hx.i64.2,outA_inj⟩
instance (o:Out):Decidable (isOutO o):=by unfold isOutO isOut;infer_instance
instance (o:Out):Decidable (outW o):=by unfold outW;infer_instance
def natV (n:Nat):Value:=.int .i64 (n:Int)
abbrev CntOf (m:List (Value×Value)) (c:Out->Nat):Prop:=MapF outA outW natV m fun o=>if outW o/\c o≠0 then some (c o) else none
theorem CntOf.nil:CntOf [] fun _=>0:=MapF.nil.congr fun o=>by simp
theorem CntOf.same {m:List (Value×Value)}{c d:Out->Nat}(h:CntOf m c)(e:∀o,outW o->d o=c o):CntOf m d:=MapF.congr h fun o=>by
 by_cases hw:outW o
 ·rw [e o hw]
 ·rw [jv (fun x=>hw x.1),jv (fun x=>hw x.1)]
theorem CntOf.bumped {m:List (Value×Value)}{c:Out->Nat}{o:Out}(hw:outW o)(h:MapF outA outW natV m fun q=>if q=o then some (c o+1) else if outW q/\c q≠0 then some (c q) else none):CntOf m fun q=>if q=o then c o+1 else c q:=
 MapF.congr h fun q=>by
  by_cases e:q=o
  ·subst e
   simp [hw]
  ·simp [e]
theorem CntOf.val {c:Out->Nat}{o:Out}(hw:outW o):(if outW o/\c o≠0 then some (c o) else none).getD 0=c o:=by
 by_cases h:c o=0
 ·rw [jv (fun x=>x.2 h),h];rfl
 ·rw [jk ⟨hw,h⟩];rfl
end Go.Proofs
end
