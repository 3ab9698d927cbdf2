import Derived.Test.YtlbekjokdlkghaaGreatChipMovesVa
import Derived.OrdersIn
import Derived.TacticsIn
import Derived.RangeFuncIn
import Derived.RangeFuncCalls
import Derived.RangeFuncRecord
set_option linter.unusedSimpArgs false
section
set_option linter.unusedSimpArgs false
set_option linter.unusedVariables false
namespace Go.Vx
open Go Go.RowKit
section
variable {rd : Option Nat} {Y : List Nat} {P : Program} {ops : Array Oper} {Q : Exit -> Act -> World -> Prop} {md : Region.Mode} {S : World -> Prop} {Ex Mu : List Nat}
def mV2 (S:World->Prop)(Ex Mu:List Nat)(i:Nat)(w w':World):Prop:=(i∈Ex->S w')/\(i∉Ex->i∉Mu->w'=w)
def fw (rd:Option Nat):Fence:={Fence.wide with round:=rd}
def gL3 (rd:Option Nat)(Y:List Nat)(P:Program)(ops:Array Oper)(Q:Exit->Act->World->Prop)(i:Nat)(K:Act->World->Prop)(a:Act)(w:World):Prop:=
 match fL6 Y i with
 |true=>∀Q':Exit->Act->World->Prop,wpOpIn (fw rd) 0 P ops Q' i K a w
 |false=>wpOp P ops Q i K a w
theorem bH6 {rd:Option Nat}{Y:List Nat}{i:Nat}{K:Act->World->Prop}{a:Act}{w:World}(hi:i∉Y):gL3 rd Y P ops Q i K a w=wpOp P ops Q i K a w:=by
 unfold gL3
 cases hm:fL6 Y i with
 |true=>exact absurd (cX4.1 hm) hi
 |false=>rfl
def cS9 (rd:Option Nat)(Y:List Nat)(P:Program)(md:Region.Mode)(ops:Array Oper)(Q:Exit->Act->World->Prop)(S:World->Prop)(Ex Mu:List Nat):Nat->Array Bool->Act->World->Prop
 |0,listed,a,w=>Region.ready md ops listed=[]/\Q .normal a w
 |fuel+1,listed,a,w=>
  (Region.ready md ops listed=[]->Q .normal a w)/\
  ∀i∈Region.ready md ops listed,gL3 rd Y P ops Q i (fun a' w'=>mV2 S Ex Mu i w w'/\cS9 rd Y P md ops Q S Ex Mu fuel (listed.setIfInBounds i true) a' w') a w
theorem dY2 {i j:Nat}{listed:Array Bool}(hr:i∈Region.ready md ops listed){oj:Oper}(hall:∀e∈oj.after,Region.binds md e=true->listed.getD e.on false=true):
  ∀e∈oj.after,Region.binds md e=true->e.on≠i:=fun e he hb heq=>by
 have h1:=hall e he hb
 have h0:=(mem_ready.1 hr).1
 rw [heq] at h1
 rcases qy i listed.size with h'|h'
 ·simp [h'] at h0 h1;rw [h0] at h1;cases h1
 ·simp [Array.getElem?_eq_none h'] at h1
theorem dK7 {i:Nat}{oi:Oper}{v:Value}(hi:ops[i]? =some oi)(hsel:∀(j:Nat) (o:Oper) cs b,ops[j]? =some o->o.op≠ .select cs b)
  (hQ:∀c a w,Q (.panic c) (a.put oi.dst v) w->Q (.panic c) a w) (hE:i∉Ex) (hiY:i∉Y)
  (V:List Nat) (hV:∀m∈V,m=i\/∃om,ops[m]? =some om/\∃e∈om.after,Region.binds md e=true/\e.on∈V):
  ∀(fuel:Nat) (listed:Array Bool) (a:Act) (w:World),
   (∀j oj,ops[j]? =some oj->j≠i->listed.getD j true=false->(∀e∈oj.after,Region.binds md e=true->e.on≠i)->oi.apart ops oj=true)->
   (∀m∈V,listed.getD m false=false)->(∀m∈Y,listed.getD m true=true\/m∈V)->
   i∈Region.ready md ops listed->Yields P ops oi v a->
   cS9 rd Y P md ops Q S Ex Mu fuel (listed.setIfInBounds i true) (a.put oi.dst v) w->cS9 rd Y P md ops Q S Ex Mu (fuel+1) listed a w:=by
 intro fuel
 induction fuel with
 |zero=>
  intro listed a w _ _ _ hr hy H
  refine ⟨fun h=>(by rw [h] at hr;cases hr),fun j hj=>?_⟩
  by_cases hji:j=i
  ·subst hji;rw [bH6 hiY];exact hy.wpOp hi ⟨⟨fun h=>absurd h hE,fun _ _=>rfl⟩,H⟩
  ·have:=ready_mono hj hji
   rw [H.1] at this
   cases this
 |succ fuel ih=>
  intro listed a w hfree hVu hYl hr hy H
  refine ⟨fun h=>(by rw [h] at hr;cases hr),fun j hj=>?_⟩
  by_cases hji:j=i
  ·subst hji;rw [bH6 hiY];exact hy.wpOp hi ⟨⟨fun h=>absurd h hE,fun _ _=>rfl⟩,H⟩
  ·have h1:=H.2 j (ready_mono hj hji)
   obtain ⟨hjun,oj,hoj,hall⟩:=mem_ready.1 hj
   have hjV:j∉V:=fun hjV=>by
    rcases hV j hjV with h|⟨om,hom,e,he,hb,hon⟩
    ·exact hji h
    ·have:om=oj:=Option.some.inj (hom.symm.trans hoj)
     subst this
     have h3:=hall e he hb
     rw [hVu e.on hon] at h3
     cases h3
   have hjY:j∉Y:=fun h=>by
    rcases hYl j h with h3|h3
    ·rw [hjun] at h3;cases h3
    ·exact hjV h3
   have hVu':∀m∈V,(listed.setIfInBounds j true).getD m false=false:=fun m hm=>by
    have hmj:j≠m:=fun e=>hjV (e▸hm)
    rw [getD_set_ne false hmj];exact hVu m hm
   have hYl':∀m∈Y,(listed.setIfInBounds j true).getD m true=true\/m∈V:=fun m hm=>by
    rcases hYl m hm with h4|h4
    ·left
     by_cases hjm:j=m
     ·subst hjm;rw [hjun] at h4;cases h4
     ·rw [getD_set_ne true hjm];exact h4
    ·exact .inr h4
   rw [bH6 hjY] at h1 ⊢
   have h2:=wpOp_put hoj (hfree j oj hoj hji hjun (dY2 (j:=j) hr hall)) (fun cs b=>hsel i oi cs b hi) (fun cs b=>hsel j oj cs b hoj) hQ hy h1
   have hfree':∀k ok,ops[k]? =some ok->k≠i->(listed.setIfInBounds j true).getD k true=false->
     (∀e∈ok.after,Region.binds md e=true->e.on≠i)->oi.apart ops ok=true:=fun k ok hk hki hun hno=>by
    refine hfree k ok hk hki ?_ hno
    by_cases hjk:j=k
    ·subst hjk;exact hjun
    ·rw [getD_set_ne true hjk] at hun;exact hun
   refine wpOp_mono (fun a' w' h3=>⟨h3.2.1,ih (listed.setIfInBounds j true) a' w' hfree' hVu' hYl' (ready_mono hr (Ne.symm hji)) h3.1 ?_⟩) h2
   rw [Array.setIfInBounds_comm _ _ hji]
   exact h3.2.2
theorem fC3 {i:Nat}{oi:Oper}{v:Value}(hi:ops[i]? =some oi)(hsel:∀(j:Nat) (o:Oper) cs b,ops[j]? =some o->o.op≠ .select cs b)
  (hQ:∀c a w,Q (.panic c) (a.put oi.dst v) w->Q (.panic c) a w) (hE:i∉Ex) (hiY:i∉Y)
  (V:List Nat) (hV:∀m∈V,m=i\/∃om,ops[m]? =some om/\∃e∈om.after,Region.binds md e=true/\e.on∈V)
  (W:List Nat) (hW:∀m∈W,m=i\/∃om,ops[m]? =some om/\∃e∈om.after,Region.binds md e=true/\e.on∈W):
  ∀(fuel:Nat) (listed:Array Bool) (a:Act) (w:World),
   (∀j oj,ops[j]? =some oj->j≠i->listed.getD j true=false->(∀e∈oj.after,Region.binds md e=true->e.on≠i)->oi.apart ops oj=true)->
   (∀m∈V,listed.getD m false=false)->(∀m∈Y,listed.getD m true=true\/m∈V)->
   (∀m∈W,listed.getD m false=false)->(∀m∈Mu,listed.getD m true=true\/m∈W)->
   i∈Region.ready md ops listed->YieldsIf P ops S oi v a->S w->
   cS9 rd Y P md ops Q S Ex Mu fuel (listed.setIfInBounds i true) (a.put oi.dst v) w->cS9 rd Y P md ops Q S Ex Mu (fuel+1) listed a w:=by
 intro fuel
 induction fuel with
 |zero=>
  intro listed a w _ _ _ _ _ hr hy hS H
  refine ⟨fun h=>(by rw [h] at hr;cases hr),fun j hj=>?_⟩
  by_cases hji:j=i
  ·subst hji;rw [bH6 hiY];exact hy.wpOp hi hS ⟨⟨fun h=>absurd h hE,fun _ _=>rfl⟩,H⟩
  ·have:=ready_mono hj hji
   rw [H.1] at this
   cases this
 |succ fuel ih=>
  intro listed a w hfree hVu hYl hWu hMu hr hy hS H
  refine ⟨fun h=>(by rw [h] at hr;cases hr),fun j hj=>?_⟩
  by_cases hji:j=i
  ·subst hji;rw [bH6 hiY];exact hy.wpOp hi hS ⟨⟨fun h=>absurd h hE,fun _ _=>rfl⟩,H⟩
  ·have h1:=H.2 j (ready_mono hj hji)
   obtain ⟨hjun,oj,hoj,hall⟩:=mem_ready.1 hj
   have hjV:j∉V:=fun hjV=>by
    rcases hV j hjV with h|⟨om,hom,e,he,hb,hon⟩
    ·exact hji h
    ·have:om=oj:=Option.some.inj (hom.symm.trans hoj)
     subst this
     have h3:=hall e he hb
     rw [hVu e.on hon] at h3
     cases h3
   have hjY:j∉Y:=fun h=>by
    rcases hYl j h with h3|h3
    ·rw [hjun] at h3;cases h3
    ·exact hjV h3
   have hVu':∀m∈V,(listed.setIfInBounds j true).getD m false=false:=fun m hm=>by
    have hmj:j≠m:=fun e=>hjV (e▸hm)
    rw [getD_set_ne false hmj];exact hVu m hm
   have hYl':∀m∈Y,(listed.setIfInBounds j true).getD m true=true\/m∈V:=fun m hm=>by
    rcases hYl m hm with h4|h4
    ·left
     by_cases hjm:j=m
     ·subst hjm;rw [hjun] at h4;cases h4
     ·rw [getD_set_ne true hjm];exact h4
    ·exact .inr h4
   rw [bH6 hjY] at h1 ⊢
   have hjW:j∉W:=fun hjW=>by
    rcases hW j hjW with h|⟨om,hom,e,he,hb,hon⟩
    ·exact hji h
    ·have:om=oj:=Option.some.inj (hom.symm.trans hoj)
     subst this
     have h3:=hall e he hb
     rw [hWu e.on hon] at h3
     cases h3
   have hjMu:j∉Mu:=fun h=>by
    rcases hMu j h with h3|h3
    ·rw [hjun] at h3;cases h3
    ·exact hjW h3
   have h2:=wpOp_putIf hoj (hfree j oj hoj hji hjun (dY2 (j:=j) hr hall)) (fun cs b=>hsel i oi cs b hi) (fun cs b=>hsel j oj cs b hoj) hQ hy h1
   have hfree':∀k ok,ops[k]? =some ok->k≠i->(listed.setIfInBounds j true).getD k true=false->
     (∀e∈ok.after,Region.binds md e=true->e.on≠i)->oi.apart ops ok=true:=fun k ok hk hki hun hno=>by
    refine hfree k ok hk hki ?_ hno
    by_cases hjk:j=k
    ·subst hjk;exact hjun
    ·rw [getD_set_ne true hjk] at hun;exact hun
   refine wpOp_mono (fun a' w' h3=>⟨h3.2.1,ih (listed.setIfInBounds j true) a' w' hfree' hVu' hYl' (fun m hm=>?_) (fun m hm=>?_) (ready_mono hr (Ne.symm hji)) h3.1 ?_ ?_⟩) h2
   ·have hmj:j≠m:=fun e=>hjW (e▸hm)
    rw [getD_set_ne false hmj];exact hWu m hm
   ·rcases hMu m hm with h4|h4
    ·left
     by_cases hjm:j=m
     ·subst hjm;rw [hjun] at h4;cases h4
     ·rw [getD_set_ne true hjm];exact h4
    ·exact .inr h4
   ·by_cases hjE:j∈Ex
    ·exact h3.2.1.1 hjE
    ·rw [h3.2.1.2 hjE hjMu];exact hS
   ·rw [Array.setIfInBounds_comm _ _ hji]
    exact h3.2.2
end
def gX7:List Oper->Nat->Option Nat
 |[],_=>none
 |o::_,0=>o.dst
 |_::r,j+1=>gX7 r j
def dP9:List Oper->Nat->Option Oper
 |[],_=>none
 |o::_,0=>some o
 |_::r,j+1=>dP9 r j
theorem fQ8:∀(l:List Oper) (j:Nat),dP9 l j=l[j]?
 |[],_=>by simp [dP9]
 |o::r,0=>by simp [dP9]
 |o::r,j+1=>by simp [dP9,fQ8 r j]
theorem gH3:∀(l:List Oper) (j:Nat),gX7 l j=(l[j]?).bind (·.dst)
 |[],_=>by simp [gX7]
 |o::r,0=>by simp [gX7]
 |o::r,j+1=>by simp [gX7,gH3 r j]
def cP9 (n:Nat)(d:Option Nat)(v:Value)(env:Env)(K:Env->Prop):Prop:=
 match d with
 |some d=>
  match Nat.blt d n with
  |true=>K ((d,v)::env)
  |false=>False
 |none=>K env
def bN1 (ops:List Oper)(env:Env)(g:Option (Nat×Bool))(A B:Prop):Prop:=
 match g with
 |none=>A
 |some (j,want)=>
  match gX7 ops j with
  |some t=>
   match look env t with
   |some (.bool b)=>
    match want with
    |true=>dM7 b A B
    |false=>dM7 b B A
   |some (.tuple _)=>B
   |_=>False
  |none=>False
theorem cG2 {n:Nat}{env:Env}{a:Act}(hr:Rep n env a){ops:List Oper}{o:Oper}{A B:Prop}(h:bN1 ops env o.guard A B):
  (Region.wanted o (yielded ops.toArray a.tmps)=true/\A)\/(Region.wanted o (yielded ops.toArray a.tmps)=false/\B):=by
 unfold bN1 at h
 unfold Region.wanted
 split at h
 ·rename_i hg;rw [hg];exact .inl ⟨rfl,h⟩
 ·rename_i j want hg
  rw [hg]
  cases h1:gX7 ops j with
  |none=>simp [h1] at h
  |some t=>
   simp only [h1] at h
   rw [gH3] at h1
   have hy:yielded ops.toArray a.tmps j=match a.tmps[t]? with|some (.bool b)=>some b|_=>none:=by
    unfold yielded
    simp only [List.getElem?_toArray,h1,Option.bind_some]
    rfl
   split at h
   ·rename_i b hb
    have:=hr.get t _ hb
    rw [this] at hy
    simp only at hy
    dsimp only
    rw [hy]
    cases want<;>cases b<;>simp [dM7] at h<;>simp [h]
   ·rename_i vs hb
    have:=hr.get t _ hb
    rw [this] at hy
    simp only at hy
    dsimp only
    rw [hy]
    cases want<;>simp [h]
   ·exact h.elim
inductive Kind where
 |pure|read|eff
def gF1:Op->Kind
 | .move _| .assign _| .pick .. | .fieldAddr .. | .indexAddr .. | .index .. | .field .. | .nilCheck _| .binOp .. | .unOp .. | .extract .. | .makeFunc .. | .build .. =>.pure
 | .slice .. =>.pure
 | .call {callee:=.builtin .cap, .. }| .call {callee:=.builtin .min, .. }| .call {callee:=.builtin .max, .. }=>.pure
 | .load .. | .lookup .. | .entry _| .convert .. =>.read
 | .call {callee:=.builtin .len, .. }=>.read
 |_=>.eff
def opE (C:Cx)(w0:World)(M:List Nat)(H:HP)(op:Op)(env:Env)(K:Value->HP->Prop):Prop:=
 match gF1 op with
 | .pure=>gM6 C op env fun v=>K v H
 | .read=>hV3 C w0 M H op env fun v=>K v H
 | .eff=>lC5 C w0 M H op env K
theorem hY0 {C:Cx}{n:Nat}{env:Env}{a:Act}{w0 w:World}{M:List Nat}{H:HP}{K:Value->HP->Prop}{o:Oper}(hr:Rep n env a)(hs:St w0 M H w)(h:opE C w0 M H o.op env K):
  o.wp C.P a w (lZ0 w0 M o a K) hT3:=by
 unfold opE at h
 split at h
 ·obtain ⟨v,h1,h2⟩:=cM6 hr h
  exact bJ0 (h2 w) ⟨v,H,rfl,hs,h1⟩
 ·obtain ⟨v,h1,h2⟩:=dY3 hr h
  exact bJ0 (h2 w hs) ⟨v,H,rfl,hs,h1⟩
 ·exact kY8 hr hs h
theorem bN2 {n:Nat}{d:Option Nat}{v:Value}{env:Env}{K:Env->Prop}{a:Act}(hr:Rep n env a)(h:cP9 n d v env K):∃env',Rep n env' (a.put d v)/\K env':=by
 unfold cP9 at h
 split at h
 ·rename_i d
  split at h
  ·rename_i hb
   refine ⟨_,hr.put ?_ v,h⟩
   unfold Nat.blt at hb
   exact QO hb
  ·exact h.elim
 ·exact ⟨env,hr,h⟩
def gP1 (n:Nat)(w0:World)(M:List Nat)(K:Env->HP->Prop)(a:Act)(w:World):Prop:=∃env H,Rep n env a/\St w0 M H w/\K env H
theorem hR7 {P:Program}{o:Oper}{a:Act}{w:World}{X X':Act->World->Prop}{Q:Exit->Act->World->Prop}(h:o.wp P a w X hT3)(hx:∀a w,X a w->X' a w):o.wp P a w X' Q:=by
 unfold Oper.wp at*
 generalize (execOp a.eval o).run P w=r at*
 cases r with
 |ok nx w'=>
  cases nx<;>simp only [Oper.upon] at h ⊢<;>
   first
    |exact hx _ _ h
    |exact Calls.mono h (fun e w'' he=>by
      cases e
      ·exact hx _ _ he
      ·exact he.elim
      ·exact he.elim (fun _ h=>h.elim (fun _ h=>h.elim)))
    |exact Rows.mono h (fun _ _ he=>hx _ _ he)
 |halt x w'=>cases x<;>simp only [Oper.upon] at h ⊢<;>exact h.elim
theorem dJ8 (rd:Option Nat){q:Prop}:(fw rd).depth.isSome=true->q:=fun h=>by simp [fw,Fence.wide] at h
theorem dR8 {rd:Option Nat}{n:Nat}{P:Program}{f:FuncId}{args:Array Value}{w:World}{R:Ending->World->Prop}(h:Calls P f args w R):CallsIn (fw rd) n P f args w R:=
 (callsIn_wide (n:=n)).2 h
theorem hK3 {rd:Option Nat}{n:Nat}{P:Program}{row:String}{args:Array Value}{w:World}{R:Value->World->Prop}(h:Rows P row args w R):RowsIn (fw rd) n P row args w R:=
 fun c cs _=>let ⟨v,w',r,s⟩:=h c cs;⟨v,w',r,stepsIn_wide.2 s⟩
theorem dN0 {rd:Option Nat}{P:Program}{o:Oper}{a:Act}{w:World}{X X':Act->World->Prop}{Q:Exit->Act->World->Prop}(hnd:∀c,o.op≠ .defer c)
  (h:o.wp P a w X hT3) (hx:∀a w,X a w->X' a w):o.wpIn (fw rd) 0 P a w X' Q:=by
 unfold Oper.wp at h
 refine ⟨fun f _=>trivial,?_⟩
 rw [Oper.semAt_eq _ _ _ hnd]
 generalize (execOp a.eval o).run P w=r at*
 cases r with
 |ok nx w'=>
  cases nx<;>simp only [Oper.upon] at h<;>simp only [Oper.uponIn]<;>
   first
    |exact hx _ _ h
    |exact ⟨dJ8 rd,dR8 (Calls.mono h (fun e w'' he=>by
      cases e
      ·exact hx _ _ he
      ·exact he.elim
      ·exact he.elim (fun _ h=>h.elim (fun _ h=>h.elim))))⟩
    |exact ⟨dJ8 rd,hK3 (Rows.mono h (fun _ _ he=>hx _ _ he))⟩
    |exact h.elim
 |halt x w'=>cases x<;>simp only [Oper.upon] at h<;>exact h.elim
theorem lK5 {C:Cx}{w0:World}{M:List Nat}{H:HP}{op:Op}{env:Env}{K:Value->HP->Prop}(h:opE C w0 M H op env K):∀c,op≠ .defer c:=by
 rintro c rfl
 simp only [opE,gF1,lC5] at h
inductive VYield (P:Program) (w0:World) (M:List Nat) (H:HP) (l:Nat) (args:List Value) (K:Value->HP->Prop):Prop
 |mk (h:∀w,St w0 M H w->∃fn tmps assign body,(Instr.yield l args.toArray).run P w=.ok (.round l fn tmps assign body) w/\
   RoundIn Fence.wide 0 P l fn tmps assign body w fun e w'=>∃v H',e=.returned v/\St w0 M H' w'/\K v H')
def opY (C:Cx)(w0:World)(M:List Nat)(H:HP)(op:Op)(env:Env)(K:Value->HP->Prop):Prop:=
 match op with
 | .call {callee:=.value f,args, .. }=>
  match ev env f with
  |some (.func (.yield l) first captured)=>
   match evs env args.toList with
   |some vs=>VYield C.P w0 M H l (first.toList++vs) K
   |none=>False
  |_=>opE C w0 M H op env K
 |_=>opE C w0 M H op env K
theorem hW9 {rd:Option Nat}{C:Cx}{n:Nat}{env:Env}{a:Act}{w0 w:World}{M:List Nat}{H:HP}{K:Value->HP->Prop}{o:Oper}{X:Act->World->Prop}{Q:Exit->Act->World->Prop}
  (hr:Rep n env a) (hs:St w0 M H w) (h:opY C w0 M H o.op env K) (hx:∀a' w',lZ0 w0 M o a K a' w'->X a' w'):o.wpIn (fw rd) 0 C.P a w X Q:=by
 have old:opE C w0 M H o.op env K->o.wpIn (fw rd) 0 C.P a w X Q:=fun h=>dN0 (lK5 h) (hY0 hr hs h) hx
 unfold opY at h
 split at h
 ·rename_i f args ts hop
  split at h
  ·rename_i l first captured hf
   split at h
   ·rename_i vs hvs
    cases h with
    |mk h=>
     obtain ⟨fn,tmps,assign,body,hy,hround⟩:=h w hs
     have hrun:(execOp a.eval o).run C.P w=.ok (.round l fn tmps assign body) w:=by
      have hvs':args.map a.eval=vs.toArray:=bV6 hr hvs
      simp only [execOp,hop,resolve,hr.eval hf,hvs',invoke]
      have he:first++vs.toArray=(first.toList++vs).toArray:=by
       apply QQ.1;simp
      simp [Sem.run_bind,Deferred.ofValue,invoke,he,hy]
     refine ⟨fun f _=>trivial,?_⟩
     rw [Oper.semAt_eq _ _ _ (by intro c;rw [hop];nofun),hrun]
     refine ⟨dJ8 rd,?_⟩
     refine RoundIn.mono (R:=fun e w'=>∃v H',e=.returned v/\St w0 M H' w'/\K v H') hround fun e w' he=>?_
     obtain ⟨v,H',rfl,hs',hk⟩:=he
     exact hx _ _ ⟨v,H',rfl,hs',hk⟩
   ·exact h.elim
  ·exact old h
 ·exact old h
def lJ5 (C:Cx)(n:Nat)(w0:World)(M:List Nat)(ops:List Oper):List Oper->Env->HP->(Env->HP->Prop)->Prop
 |[],env,H,K=>K env H
 |o::r,env,H,K=>
  bN1 ops env o.guard
   (opY C w0 M H o.op env fun v H'=>cP9 n o.dst v env fun env'=>lJ5 C n w0 M ops r env' H' K)
   (cP9 n o.dst undef env fun env'=>lJ5 C n w0 M ops r env' H K)
theorem dL8 {rd:Option Nat}{C:Cx}{n:Nat}{w0:World}{M:List Nat}{ops:List Oper}{Q:Exit->Act->World->Prop}{K:Env->HP->Prop}(hQ:∀a w,gP1 n w0 M K a w->Q .normal a w):
  ∀(l:List Oper) (env:Env) (H:HP) (a:Act) (w:World),Rep n env a->St w0 M H w->lJ5 C n w0 M ops l env H K->wpListIn (fw rd) 0 C.P ops.toArray Q l a w
 |[],env,H,a,w,hr,hs,h=>hQ a w ⟨env,H,hr,hs,h⟩
 |o::r,env,H,a,w,hr,hs,h=>by
  simp only [lJ5] at h
  simp only [wpListIn]
  rcases cG2 hr h with ⟨hw,h⟩|⟨hw,h⟩
  ·rw [jw hw]
   refine hW9 hr hs h fun a' w' ha=>?_
   obtain ⟨v,H',rfl,hs',h'⟩:=ha
   obtain ⟨env',hr',h''⟩:=bN2 hr h'
   exact dL8 hQ r env' H' _ w' hr' hs' h''
  ·rw [jk (by simp [hw])]
   obtain ⟨env',hr',h''⟩:=bN2 hr h
   exact ⟨fun _ _=>trivial,dL8 hQ r env' H _ w hr' hs h''⟩
end Go.Vx
end
section
set_option linter.unusedSimpArgs false
set_option linter.unusedVariables false
namespace Go.Vx
open Go Go.RowKit
inductive Plan where
 |done
 |take (i:Nat) (p:Plan)
 |eff (i:Nat) (p:Plan)
 |fork (i j:Nat) (p q:Plan)
 |fork3 (i j k:Nat) (p q r:Plan)
 |fork4 (i j k l:Nat) (p q r s:Plan)
 |yld (i:Nat) (p:Plan)
def Plan.ylds:Plan->List Nat
 | .done=>[]
 | .take _ p=>p.ylds
 | .eff _ p=>p.ylds
 | .fork .. =>[]
 | .fork3 .. =>[]
 | .fork4 .. =>[]
 | .yld i p=>i::p.ylds
inductive VKeep (Hs H:HP) (q:Prop):Prop
 |mk (h:HLe Hs H) (hk:q)
def bM4 (Mu:List Nat)(Hs:HP)(i:Nat)(H:HP)(q:Prop):Prop:=
 match fL6 Mu i with
 |true=>q
 |false=>VKeep Hs H q
def lJ4 (C:Cx)(w0:World)(M:List Nat)(Hs:HP)(op:Op)(env:Env)(k:Value->Prop):Prop:=
 match gF1 op with
 | .pure=>gM6 C op env k
 | .read=>hV3 C w0 M Hs op env k
 | .eff=>False
def planE (C:Cx)(n:Nat)(w0:World)(M:List Nat)(ops:List Oper)(Mu:List Nat)(Hs:HP):Plan->Env->HP->(Env->HP->Prop)->Prop
 | .done,env,H,K=>K env H
 | .take i p,env,H,K=>
  match dP9 ops i with
  |some o=>
   bN1 ops env o.guard
    (lJ4 C w0 M Hs o.op env fun v=>cP9 n o.dst v env fun env'=>planE C n w0 M ops Mu Hs p env' H K)
    (cP9 n o.dst undef env fun env'=>planE C n w0 M ops Mu Hs p env' H K)
  |none=>False
 | .eff i p,env,H,K=>
  match dP9 ops i with
  |some o=>
   bN1 ops env o.guard
    (opE C w0 M H o.op env fun v H'=>bM4 Mu Hs i H' (cP9 n o.dst v env fun env'=>planE C n w0 M ops Mu Hs p env' H' K))
    (bM4 Mu Hs i H (cP9 n o.dst undef env fun env'=>planE C n w0 M ops Mu Hs p env' H K))
  |none=>False
 | .yld i p,env,H,K=>
  match dP9 ops i with
  |some o=>
   bN1 ops env o.guard
    (opY C w0 M H o.op env fun v H'=>bM4 Mu Hs i H' (cP9 n o.dst v env fun env'=>planE C n w0 M ops Mu Hs p env' H' K))
    (bM4 Mu Hs i H (cP9 n o.dst undef env fun env'=>planE C n w0 M ops Mu Hs p env' H K))
  |none=>False
 | .fork i j p q,env,H,K=>
  (match dP9 ops i with
  |some o=>
   bN1 ops env o.guard
    (opE C w0 M H o.op env fun v H'=>bM4 Mu Hs i H' (cP9 n o.dst v env fun env'=>planE C n w0 M ops Mu Hs p env' H' K))
    (bM4 Mu Hs i H (cP9 n o.dst undef env fun env'=>planE C n w0 M ops Mu Hs p env' H K))
  |none=>False)/\
  (match dP9 ops j with
  |some o=>
   bN1 ops env o.guard
    (opE C w0 M H o.op env fun v H'=>bM4 Mu Hs j H' (cP9 n o.dst v env fun env'=>planE C n w0 M ops Mu Hs q env' H' K))
    (bM4 Mu Hs j H (cP9 n o.dst undef env fun env'=>planE C n w0 M ops Mu Hs q env' H K))
  |none=>False)
 | .fork3 i j k p q r,env,H,K=>
  (match dP9 ops i with
  |some o=>
   bN1 ops env o.guard
    (opE C w0 M H o.op env fun v H'=>bM4 Mu Hs i H' (cP9 n o.dst v env fun env'=>planE C n w0 M ops Mu Hs p env' H' K))
    (bM4 Mu Hs i H (cP9 n o.dst undef env fun env'=>planE C n w0 M ops Mu Hs p env' H K))
  |none=>False)/\
  (match dP9 ops j with
  |some o=>
   bN1 ops env o.guard
    (opE C w0 M H o.op env fun v H'=>bM4 Mu Hs j H' (cP9 n o.dst v env fun env'=>planE C n w0 M ops Mu Hs q env' H' K))
    (bM4 Mu Hs j H (cP9 n o.dst undef env fun env'=>planE C n w0 M ops Mu Hs q env' H K))
  |none=>False)/\
  (match dP9 ops k with
  |some o=>
   bN1 ops env o.guard
    (opE C w0 M H o.op env fun v H'=>bM4 Mu Hs k H' (cP9 n o.dst v env fun env'=>planE C n w0 M ops Mu Hs r env' H' K))
    (bM4 Mu Hs k H (cP9 n o.dst undef env fun env'=>planE C n w0 M ops Mu Hs r env' H K))
  |none=>False)
 | .fork4 i j k l p q r s,env,H,K=>
  (match dP9 ops i with
  |some o=>
   bN1 ops env o.guard
    (opE C w0 M H o.op env fun v H'=>bM4 Mu Hs i H' (cP9 n o.dst v env fun env'=>planE C n w0 M ops Mu Hs p env' H' K))
    (bM4 Mu Hs i H (cP9 n o.dst undef env fun env'=>planE C n w0 M ops Mu Hs p env' H K))
  |none=>False)/\
  (match dP9 ops j with
  |some o=>
   bN1 ops env o.guard
    (opE C w0 M H o.op env fun v H'=>bM4 Mu Hs j H' (cP9 n o.dst v env fun env'=>planE C n w0 M ops Mu Hs q env' H' K))
    (bM4 Mu Hs j H (cP9 n o.dst undef env fun env'=>planE C n w0 M ops Mu Hs q env' H K))
  |none=>False)/\
  (match dP9 ops k with
  |some o=>
   bN1 ops env o.guard
    (opE C w0 M H o.op env fun v H'=>bM4 Mu Hs k H' (cP9 n o.dst v env fun env'=>planE C n w0 M ops Mu Hs r env' H' K))
    (bM4 Mu Hs k H (cP9 n o.dst undef env fun env'=>planE C n w0 M ops Mu Hs r env' H K))
  |none=>False)/\
  (match dP9 ops l with
  |some o=>
   bN1 ops env o.guard
    (opE C w0 M H o.op env fun v H'=>bM4 Mu Hs l H' (cP9 n o.dst v env fun env'=>planE C n w0 M ops Mu Hs s env' H' K))
    (bM4 Mu Hs l H (cP9 n o.dst undef env fun env'=>planE C n w0 M ops Mu Hs s env' H K))
  |none=>False)
def gL9 (ops:Array Oper):Nat->List Nat->List Nat
 |0,W=>W
 |f+1,W=>gL9 ops f (W++(List.range ops.size).filter fun m=> !W.contains m&&(match ops[m]? with|some o=>o.after.any fun e=>Region.binds .any e&&W.contains e.on|none=>false))
def wOf (ops:Array Oper)(n:Nat)(Mu:List Nat)(i:Nat):List Nat:=
 match Mu with
 |[]=>[]
 |_=>gL9 ops n [i]
def fW2 (ops:Array Oper)(Mu:List Nat)(listed:Array Bool)(i:Nat)(W:List Nat):Bool:=
 (W.all fun m=>(m==i || (match ops[m]? with|some o=>o.after.any fun e=>Region.binds .any e&&W.contains e.on|none=>false))&& !listed.getD m false)&&
 Mu.all fun m=>listed.getD m true || W.contains m
def kV3:List Nat->Bool
 |[]=>true
 |_=>false
def bW5 (ops:List Oper)(Ex Mu Y:List Nat):Nat->Array Bool->Bool->Plan->Bool
 |_,listed,_,.done=>(Region.ready .any ops.toArray listed).isEmpty
 |0,_,_,_=>false
 |fuel+1,listed,fl,.take i p=>
  !Ex.contains i&& !Y.contains i&&fW2 ops.toArray Y listed i (wOf ops.toArray ops.length Y i)&&Region.free .any ops.toArray listed i&&(Region.ready .any ops.toArray listed).contains i&&
  (match dP9 ops i with
  |some o=>
   match gF1 o.op with
   | .pure=>true
   | .read=>fl&&fW2 ops.toArray Mu listed i (wOf ops.toArray ops.length Mu i)
   | .eff=>false
  |none=>false)&&
  bW5 ops Ex Mu Y fuel (listed.setIfInBounds i true) fl p
 |fuel+1,listed,fl,.yld i p=>
  (Region.ready .any ops.toArray listed==[i])&&Y.contains i&&(Ex.contains i !=Mu.contains i)&&
  bW5 ops Ex Mu Y fuel (listed.setIfInBounds i true) (Ex.contains i) p
 |fuel+1,listed,fl,.eff i p=>
  (Region.ready .any ops.toArray listed==[i])&& !Y.contains i&&(Ex.contains i !=Mu.contains i)&&
  bW5 ops Ex Mu Y fuel (listed.setIfInBounds i true) (Ex.contains i) p
 |fuel+1,listed,fl,.fork i j p q=>
  (Region.ready .any ops.toArray listed==[i,j])&&kV3 Y&&(Ex.contains i !=Mu.contains i)&&(Ex.contains j !=Mu.contains j)&&
  bW5 ops Ex Mu Y fuel (listed.setIfInBounds i true) (Ex.contains i) p&&bW5 ops Ex Mu Y fuel (listed.setIfInBounds j true) (Ex.contains j) q
 |fuel+1,listed,fl,.fork3 i j k p q r=>
  (Region.ready .any ops.toArray listed==[i,j,k])&&kV3 Y&&(Ex.contains i !=Mu.contains i)&&(Ex.contains j !=Mu.contains j)&&(Ex.contains k !=Mu.contains k)&&
  bW5 ops Ex Mu Y fuel (listed.setIfInBounds i true) (Ex.contains i) p&&bW5 ops Ex Mu Y fuel (listed.setIfInBounds j true) (Ex.contains j) q&&bW5 ops Ex Mu Y fuel (listed.setIfInBounds k true) (Ex.contains k) r
 |fuel+1,listed,fl,.fork4 i j k l p q r s=>
  (Region.ready .any ops.toArray listed==[i,j,k,l])&&kV3 Y&&(Ex.contains i !=Mu.contains i)&&(Ex.contains j !=Mu.contains j)&&(Ex.contains k !=Mu.contains k)&&(Ex.contains l !=Mu.contains l)&&
  bW5 ops Ex Mu Y fuel (listed.setIfInBounds i true) (Ex.contains i) p&&bW5 ops Ex Mu Y fuel (listed.setIfInBounds j true) (Ex.contains j) q&&bW5 ops Ex Mu Y fuel (listed.setIfInBounds k true) (Ex.contains k) r&&bW5 ops Ex Mu Y fuel (listed.setIfInBounds l true) (Ex.contains l) s
def bH1 (Q:Exit->Act->World->Prop):Exit->Act->World->Prop
 | .normal,a,w=>Q .normal a w
 |_,_,_=>False
section
variable {C : Cx} {n : Nat} {w0 : World} {M : List Nat} {ops : List Oper} {rd : Option Nat} {Ex Mu Y : List Nat} {Hs : HP} {K : Env -> HP -> Prop} {Q : Exit -> Act -> World -> Prop}
theorem dH3 {Y:List Nat}(h:kV3 Y=true):Y=[]:=by
 cases Y with
 |nil=>rfl
 |cons x l=>cases h
theorem gP6 {os:Array Oper}{Z:List Nat}{listed:Array Bool}{i:Nat}{W:List Nat}(h:fW2 os Z listed i W=true):
  (∀m∈W,m=i\/∃om,os[m]? =some om/\∃e∈om.after,Region.binds .any e=true/\e.on∈W)/\(∀m∈W,listed.getD m false=false)/\(∀m∈Z,listed.getD m true=true\/m∈W):=by
 simp only [Qd,fW2,List.all_eq_true,Bool.or_eq_true,Bool.not_eq_true',beq_iff_eq,List.contains_iff_mem] at h
 obtain ⟨kw,km⟩:=h
 refine ⟨fun m hm=>?_,fun m hm=>(kw m hm).2,fun m hm=>km m hm⟩
 rcases (kw m hm).1 with h3|h3
 ·exact .inl h3
 ·right
  split at h3
  ·rename_i om hom
   obtain ⟨e,he,hb⟩:=Array.any_eq_true'.1 h3
   simp only [Qd,List.contains_iff_mem] at hb
   exact ⟨om,hom,e,he,hb.1,hb.2⟩
  ·cases h3
theorem dJ6 {i:Nat}(hx:(Ex.contains i !=Mu.contains i)=true){H:HP}{w w':World}{q:Prop}(hs:St w0 M H w')(h:bM4 Mu Hs i H q):
  mV2 (fun w=>St w0 M Hs w) Ex Mu i w w'/\(Ex.contains i=true->St w0 M Hs w')/\q:=by
 unfold bM4 at h
 cases hm:fL6 Mu i with
 |true=>
  simp only [hm] at h
  have h1:i∈Mu:=cX4.1 hm
  have h2:¬i∈Ex:=by
   intro h3
   simp [h1,h3] at hx
  exact ⟨⟨fun h3=>absurd h3 h2,fun _ h4=>absurd h1 h4⟩,fun h3=>absurd (by simpa using h3) h2,h⟩
 |false=>
  simp only [hm] at h
  have h1:¬i∈Mu:=fun h3=>by rw [cX4.2 h3] at hm;cases hm
  have h2:i∈Ex:=by
   apply jg
   intro h3
   simp [h1,h3] at hx
  cases h with
  |mk hl hk=>exact ⟨⟨fun _=>hs.le hl,fun h3=>absurd h2 h3⟩,fun _=>hs.le hl,hk⟩
theorem bW1 (hsel:Region.noSelect ops.toArray=true)(hQ:∀a w,gP1 n w0 M K a w->Q .normal a w):
  ∀(p:Plan) (fuel:Nat) (listed:Array Bool) (fl:Bool) (env:Env) (H:HP) (a:Act) (w:World),bW5 ops Ex Mu Y fuel listed fl p=true->
   Rep n env a->St w0 M H w->(fl=true->St w0 M Hs w)->planE C n w0 M ops Mu Hs p env H K->
   cS9 rd Y C.P .any ops.toArray (bH1 Q) (fun w=>St w0 M Hs w) Ex Mu fuel listed a w
 | .done,fuel,listed,fl,env,H,a,w,hok,hr,hs,hfl,h=>by
  have hready:Region.ready .any ops.toArray listed=[]:=by
   cases fuel<;>simpa [bW5] using hok
  have hq:bH1 Q .normal a w:=hQ a w ⟨env,H,hr,hs,h⟩
  cases fuel with
  |zero=>exact ⟨hready,hq⟩
  |succ f=>exact ⟨fun _=>hq,by rw [hready];simp⟩
 | .take i p,0,listed,fl,env,H,a,w,hok,hr,hs,hfl,h=>by simp [bW5] at hok
 | .take i p,fuel+1,listed,fl,env,H,a,w,hok,hr,hs,hfl,h=>by
  simp only [bW5,Qd,Bool.not_eq_true'] at hok
  obtain ⟨⟨⟨⟨⟨⟨k1,kY⟩,kV⟩,k2⟩,k3⟩,k4⟩,k5⟩:=hok
  have hiY:i∉Y:=by simpa using kY
  obtain ⟨hVw,hVu,hVY⟩:=gP6 kV
  simp only [planE] at h
  cases hi:dP9 ops i with
  |none=>simp [hi] at h
  |some o=>
   simp only [hi] at h k4
   have hi':ops.toArray[i]? =some o:=by rw [fQ8] at hi;simpa using hi
   have hE:i∉Ex:=by simpa using k1
   have hrd:i∈Region.ready .any ops.toArray listed:=by simpa using k3
   have hfree:=Region.free_spec hi' k2
   have hQ':∀(v:Value) c a w,bH1 Q (.panic c) (a.put o.dst v) w->bH1 Q (.panic c) a w:=fun _ _ _ _ h=>h
   have hgen:∀v env',Rep n env' (a.put o.dst v)->planE C n w0 M ops Mu Hs p env' H K->cS9 rd Y C.P .any ops.toArray (bH1 Q) (fun w=>St w0 M Hs w) Ex Mu fuel (listed.setIfInBounds i true) (a.put o.dst v) w:=
    fun v env' hr' h'=>bW1 hsel hQ p fuel _ fl env' H _ w k5 hr' hs hfl h'
   rcases cG2 hr h with ⟨hw,h⟩|⟨hw,h⟩
   ·unfold lJ4 at h
    split at h
    ·obtain ⟨v,h1,h2⟩:=cM6 hr h
     obtain ⟨env',hr',h'⟩:=bN2 hr h1
     exact dK7 hi' (Region.noSelect_spec hsel) (hQ' v) hE hiY _ hVw fuel listed a w hfree hVu hVY hrd (.inl ⟨hw,h2⟩) (hgen v env' hr' h')
    ·rename_i hkd
     simp only [hkd,Qd,fW2,List.all_eq_true,Bool.or_eq_true,Bool.not_eq_true',beq_iff_eq,List.contains_iff_mem] at k4
     obtain ⟨v,h1,h2⟩:=dY3 hr h
     obtain ⟨env',hr',h'⟩:=bN2 hr h1
     obtain ⟨kf,kw,km⟩:=k4
     refine fC3 hi' (Region.noSelect_spec hsel) (hQ' v) hE hiY _ hVw (wOf ops.toArray ops.length Mu i) (fun m hm=>?_) fuel listed a w hfree hVu hVY (fun m hm=>(kw m hm).2) (fun m hm=>km m hm) hrd (.inl ⟨hw,h2⟩) (hfl kf) (hgen v env' hr' h')
     rcases (kw m hm).1 with h3|h3
     ·exact .inl h3
     ·right
      split at h3
      ·rename_i om hom
       obtain ⟨e,he,hb⟩:=Array.any_eq_true'.1 h3
       simp only [Qd,List.contains_iff_mem] at hb
       exact ⟨om,hom,e,he,hb.1,hb.2⟩
      ·cases h3
    ·exact h.elim
   ·obtain ⟨env',hr',h'⟩:=bN2 hr h
    exact dK7 hi' (Region.noSelect_spec hsel) (hQ' undef) hE hiY _ hVw fuel listed a w hfree hVu hVY hrd (.inr ⟨hw,rfl⟩) (hgen undef env' hr' h')
 | .eff i p,0,listed,fl,env,H,a,w,hok,hr,hs,hfl,h=>by simp [bW5] at hok
 | .eff i p,fuel+1,listed,fl,env,H,a,w,hok,hr,hs,hfl,h=>by
  simp only [bW5,Qd,beq_iff_eq] at hok
  obtain ⟨⟨⟨k1,kY⟩,k2⟩,k3⟩:=hok
  have hiY:i∉Y:=by simpa using kY
  simp only [planE] at h
  refine ⟨fun h0=>(by rw [k1] at h0;cases h0),fun j hj=>?_⟩
  rw [k1] at hj
  simp only [qt] at hj
  subst hj
  rw [bH6 hiY]
  exact planEff hsel hQ hr hs k2 h fun env' H' a' w' hr' hs' hS h'=>bW1 hsel hQ p fuel _ _ env' H' a' w' k3 hr' hs' hS h'
 | .yld i p,0,listed,fl,env,H,a,w,hok,hr,hs,hfl,h=>by simp [bW5] at hok
 | .yld i p,fuel+1,listed,fl,env,H,a,w,hok,hr,hs,hfl,h=>by
  simp only [bW5,Qd,beq_iff_eq] at hok
  obtain ⟨⟨⟨k1,kY⟩,k2⟩,k3⟩:=hok
  have hiY:i∈Y:=by simpa using kY
  simp only [planE] at h
  refine ⟨fun h0=>(by rw [k1] at h0;cases h0),fun j hj=>?_⟩
  rw [k1] at hj
  simp only [qt] at hj
  subst hj
  unfold gL3
  rw [cX4.2 hiY]
  intro Q'
  cases hi:dP9 ops j with
  |none=>simp [hi] at h
  |some o=>
   simp only [hi] at h
   have hi':ops.toArray[j]? =some o:=by rw [fQ8] at hi;simpa using hi
   unfold wpOpIn
   simp only [hi']
   rcases cG2 hr h with ⟨hw,h⟩|⟨hw,h⟩
   ·rw [jw hw]
    refine hW9 hr hs h fun a' w' ha=>?_
    obtain ⟨v,H',rfl,hs',h'⟩:=ha
    obtain ⟨g1,g2,g3⟩:=dJ6 (w:=w) k2 hs' h'
    obtain ⟨env',hr',h''⟩:=bN2 hr g3
    exact ⟨g1,bW1 hsel hQ p fuel _ _ env' H' _ w' k3 hr' hs' g2 h''⟩
   ·rw [jk (by simp [hw])]
    obtain ⟨g1,g2,g3⟩:=dJ6 (w:=w) k2 hs h
    obtain ⟨env',hr',h''⟩:=bN2 hr g3
    exact ⟨fun _ _=>trivial,g1,bW1 hsel hQ p fuel _ _ env' H _ w k3 hr' hs g2 h''⟩
 | .fork i j p q,0,listed,fl,env,H,a,w,hok,hr,hs,hfl,h=>by simp [bW5] at hok
 | .fork i j p q,fuel+1,listed,fl,env,H,a,w,hok,hr,hs,hfl,h=>by
  simp only [bW5,Qd,beq_iff_eq] at hok
  obtain ⟨⟨⟨⟨⟨k1,kY⟩,k2⟩,k2'⟩,k3⟩,k3'⟩:=hok
  have hYn:=dH3 kY
  simp only [planE] at h
  refine ⟨fun h0=>(by rw [k1] at h0;cases h0),fun k hk=>?_⟩
  rw [k1] at hk
  simp only [qQ,jq,or_false] at hk
  rw [bH6 (by rw [hYn];simp)]
  rcases hk with rfl|rfl
  ·exact planEff hsel hQ hr hs k2 h.1 fun env' H' a' w' hr' hs' hS h'=>bW1 hsel hQ p fuel _ _ env' H' a' w' k3 hr' hs' hS h'
  ·exact planEff hsel hQ hr hs k2' h.2 fun env' H' a' w' hr' hs' hS h'=>bW1 hsel hQ q fuel _ _ env' H' a' w' k3' hr' hs' hS h'
 | .fork3 i j k p q r,0,listed,fl,env,H,a,w,hok,hr,hs,hfl,h=>by simp [bW5] at hok
 | .fork3 i j k p q r,fuel+1,listed,fl,env,H,a,w,hok,hr,hs,hfl,h=>by
  simp only [bW5,Qd,beq_iff_eq] at hok
  obtain ⟨⟨⟨⟨⟨⟨⟨k1,kY⟩,k2⟩,k2'⟩,k2''⟩,k3⟩,k3'⟩,k3''⟩:=hok
  have hYn:=dH3 kY
  simp only [planE] at h
  refine ⟨fun h0=>(by rw [k1] at h0;cases h0),fun m hm=>?_⟩
  rw [k1] at hm
  simp only [qQ,jq,or_false] at hm
  rw [bH6 (by rw [hYn];simp)]
  rcases hm with rfl|rfl|rfl
  ·exact planEff hsel hQ hr hs k2 h.1 fun env' H' a' w' hr' hs' hS h'=>bW1 hsel hQ p fuel _ _ env' H' a' w' k3 hr' hs' hS h'
  ·exact planEff hsel hQ hr hs k2' h.2.1 fun env' H' a' w' hr' hs' hS h'=>bW1 hsel hQ q fuel _ _ env' H' a' w' k3' hr' hs' hS h'
  ·exact planEff hsel hQ hr hs k2'' h.2.2 fun env' H' a' w' hr' hs' hS h'=>bW1 hsel hQ r fuel _ _ env' H' a' w' k3'' hr' hs' hS h'
 | .fork4 i j k l p q r s,0,listed,fl,env,H,a,w,hok,hr,hs,hfl,h=>by simp [bW5] at hok
 | .fork4 i j k l p q r s,fuel+1,listed,fl,env,H,a,w,hok,hr,hs,hfl,h=>by
  simp only [bW5,Qd,beq_iff_eq] at hok
  obtain ⟨⟨⟨⟨⟨⟨⟨⟨⟨k1,kY⟩,k2⟩,k2'⟩,k2''⟩,k2'''⟩,k3⟩,k3'⟩,k3''⟩,k3'''⟩:=hok
  have hYn:=dH3 kY
  simp only [planE] at h
  refine ⟨fun h0=>(by rw [k1] at h0;cases h0),fun m hm=>?_⟩
  rw [k1] at hm
  simp only [qQ,jq,or_false] at hm
  rw [bH6 (by rw [hYn];simp)]
  rcases hm with rfl|rfl|rfl|rfl
  ·exact planEff hsel hQ hr hs k2 h.1 fun env' H' a' w' hr' hs' hS h'=>bW1 hsel hQ p fuel _ _ env' H' a' w' k3 hr' hs' hS h'
  ·exact planEff hsel hQ hr hs k2' h.2.1 fun env' H' a' w' hr' hs' hS h'=>bW1 hsel hQ q fuel _ _ env' H' a' w' k3' hr' hs' hS h'
  ·exact planEff hsel hQ hr hs k2'' h.2.2.1 fun env' H' a' w' hr' hs' hS h'=>bW1 hsel hQ r fuel _ _ env' H' a' w' k3'' hr' hs' hS h'
  ·exact planEff hsel hQ hr hs k2''' h.2.2.2 fun env' H' a' w' hr' hs' hS h'=>bW1 hsel hQ s fuel _ _ env' H' a' w' k3''' hr' hs' hS h'
where
 planEff {p:Plan} {i:Nat} {env:Env} {H:HP} {a:Act} {w:World} {X:Act->World->Prop} (hsel:Region.noSelect ops.toArray=true) (hQ:∀a w,gP1 n w0 M K a w->Q .normal a w)
   (hr:Rep n env a) (hs:St w0 M H w) (hx:(Ex.contains i !=Mu.contains i)=true)
   (h:match dP9 ops i with
    |some o=>
     bN1 ops env o.guard
      (opE C w0 M H o.op env fun v H'=>bM4 Mu Hs i H' (cP9 n o.dst v env fun env'=>planE C n w0 M ops Mu Hs p env' H' K))
      (bM4 Mu Hs i H (cP9 n o.dst undef env fun env'=>planE C n w0 M ops Mu Hs p env' H K))
    |none=>False)
   (hn:∀env' H' a' w',Rep n env' a'->St w0 M H' w'->(Ex.contains i=true->St w0 M Hs w')->planE C n w0 M ops Mu Hs p env' H' K->X a' w'):
   wpOp C.P ops.toArray (bH1 Q) i (fun a' w'=>mV2 (fun w=>St w0 M Hs w) Ex Mu i w w'/\X a' w') a w:=by
  cases hi:dP9 ops i with
  |none=>simp [hi] at h
  |some o=>
   simp only [hi] at h
   have hi':ops.toArray[i]? =some o:=by rw [fQ8] at hi;simpa using hi
   unfold wpOp
   simp only [hi']
   rcases cG2 hr h with ⟨hw,h⟩|⟨hw,h⟩
   ·rw [jw hw]
    refine .inl (hR7 (hY0 hr hs h) fun a' w' ha=>?_)
    obtain ⟨v,H',rfl,hs',h'⟩:=ha
    obtain ⟨g1,g2,g3⟩:=dJ6 (w:=w) hx hs' h'
    obtain ⟨env',hr',h''⟩:=bN2 hr g3
    exact ⟨g1,hn env' H' _ w' hr' hs' g2 h''⟩
   ·rw [jk (by simp [hw])]
    obtain ⟨g1,g2,g3⟩:=dJ6 (w:=w) hx hs h
    obtain ⟨env',hr',h''⟩:=bN2 hr g3
    exact ⟨g1,hn env' H _ w hr' hs g2 h''⟩
theorem kM5 {P:Program}{o:Oper}{a:Act}{w:World}{X X':Act->World->Prop}(h:o.wp P a w X (bH1 Q))(hx:∀a w,X a w->X' a w):o.wp P a w X' hT3:=by
 unfold Oper.wp at*
 generalize (execOp a.eval o).run P w=r at*
 cases r with
 |ok nx w'=>
  cases nx<;>simp only [Oper.upon] at h ⊢<;>
   first
    |exact hx _ _ h
    |exact Calls.mono h (fun e w'' he=>by
      cases e
      ·exact hx _ _ he
      ·exact he.elim
      ·exact he.elim (fun _ h=>h.elim (fun _ h=>h.elim)))
    |exact Rows.mono h (fun _ _ he=>hx _ _ he)
 |halt x w'=>cases x<;>simp only [Oper.upon] at h ⊢<;>exact h.elim
def cB2:List Oper->Bool
 |[]=>true
 |o::r=>match o.op with
  | .defer _=>false
  |_=>cB2 r
theorem dQ0:∀{l:List Oper},cB2 l=true->∀o∈l,∀c,o.op≠ .defer c
 |[],_,o,ho,_=>by simp at ho
 |x::r,h,o,ho,c=>by
  intro hc
  simp only [cB2] at h
  rcases qQ.1 ho with rfl|ho
  ·rw [hc] at h;simp at h
  ·split at h
   ·cases h
   ·exact dQ0 h o ho c hc
theorem fV7 {rd:Option Nat}{P:Program}{os:Array Oper}{i:Nat}{X X':Act->World->Prop}{a:Act}{w:World}(hd:cB2 os.toList=true)
  (h:wpOp P os (bH1 Q) i X a w) (hx:∀a w,X a w->X' a w):wpOpIn (fw rd) 0 P os Q i X' a w:=by
 unfold wpOp at h
 unfold wpOpIn
 cases ho:os[i]? with
 |none=>simp only [ho] at h;exact hx _ _ h
 |some o=>
  simp only [ho] at h ⊢
  have hmem:o∈os.toList:=by
   obtain ⟨hlt,rfl⟩:=Qh.1 ho
   simp
  split
  ·rename_i hw
   simp only [hw,if_true] at h
   rcases h with h|⟨_,a',w',h⟩
   ·exact dN0 (dQ0 hd o hmem) (kM5 h hx) fun _ _ h=>h
   ·exact h.elim
  ·rename_i hw
   simp only [hw] at h
   exact ⟨fun _ _=>trivial,hx _ _ h⟩
theorem cT0 {S:World->Prop}{P:Program}{os:Array Oper}{md:Region.Mode}(hd:cB2 os.toList=true):∀(fuel:Nat) (listed:Array Bool) (a:Act) (w:World),
  cS9 rd Y P md os (bH1 Q) S Ex Mu fuel listed a w->wpAnyIn (fw rd) 0 P md os Q fuel listed a w
 |0,_,_,_,h=>h
 |fuel+1,_,_,_,h=>⟨h.1,fun i hi=>by
  have h1:=h.2 i hi
  unfold gL3 at h1
  cases hm:fL6 Y i with
  |true=>
   simp only [hm] at h1
   exact wpOpIn_mono (fun a w h2=>cT0 hd fuel _ a w h2.2) (h1 Q)
  |false=>
   simp only [hm] at h1
   exact fV7 hd h1 fun a w h2=>cT0 hd fuel _ a w h2.2⟩
theorem dY1 {id:Nat}{Ex:List Nat}{p:Plan}{env:Env}{H:HP}{a:Act}{w:World}(hok:(cB2 ops&&(Region.noSelect ops.toArray&&bW5 ops Ex Mu p.ylds ops.length (Array.replicate ops.length false) true p))=true)
  (hr:Rep n env a) (hs:St w0 M H w) (hl:HLe Hs H) (h:planE C n w0 M ops Mu Hs p env H K) (hQ:∀a w,gP1 n w0 M K a w->Q .normal a w):(Code.region id ops.toArray true).wpIn (fw rd) 0 C.P Q a w:=by
 simp only [Qd] at hok
 have h1:=bW1 (C:=C) (rd:=rd) (Y:=p.ylds) (Q:=Q) hok.2.1 hQ p ops.length (Array.replicate ops.length false) true env H a {w with drawn:=w.drawn+1} hok.2.2 hr hs.drew (fun _=>hs.drew.le hl) h
 exact wpIn_region_any (id:=id) C.mixed (by rw [List.size_toArray];exact cT0 (by simpa using hok.1) _ _ _ _ h1)
end
end Go.Vx
end
section
set_option linter.unusedSimpArgs false
set_option linter.unusedVariables false
namespace Go.Vx
open Go Go.RowKit
structure RPlan where
 ex:List Nat
 mu:List Nat
 p:Plan
abbrev lN3:=List (Nat×RPlan)
def gY1:lN3->Nat->Option RPlan
 |[],_=>none
 |(k,x)::r,t=>match Nat.beq k t with
  |true=>some x
  |false=>gY1 r t
inductive VHs (H:HP) (k:HP->Prop):Prop
 |mk (Hs:HP) (h:HLe Hs H) (hk:k Hs)
structure Fx where
 n:Nat
 keep:List Nat
 plans:lN3
abbrev cC9:=Exit->Env->HP->Prop
def lC7 (next:Env->HP->Prop)(Q:cC9):cC9
 | .normal,env,H=>next env H
 |e,env,H=>Q e env H
def kD5 (id:Nat)(Q:cC9):cC9
 | .exit j,env,H=>
  match Nat.beq j id with
  |true=>Q .normal env H
  |false=>Q (.exit j) env H
 |e,env,H=>Q e env H
def lJ6 (Q:cC9):cC9
 | .goto _,_,_=>False
 |e,env,H=>Q e env H
inductive VNext {α:Type} (I:α->Prop) (E:α->Env) (G:α->HP) (μ:α->Nat) (x:α) (env:Env) (H:HP):Prop
 |mk (y:α) (hI:I y) (hμ:μ y<μ x) (hE:EnvLe (E y) env) (hG:HLe (G y) H)
def fY9 {α:Type}(I:α->Prop)(E:α->Env)(G:α->HP)(μ:α->Nat)(x:α)(Q:cC9):cC9
 | .normal,env,H=>VNext I E G μ x env H
 |e,env,H=>Q e env H
inductive VLoop (B:cC9->Env->HP->Prop) (Q:cC9) (env:Env) (H:HP):Prop
 |mk {α:Type} (I:α->Prop) (E:α->Env) (G:α->HP) (μ:α->Nat) (x0:α) (hI:I x0) (hE:EnvLe (E x0) env) (hG:HLe (G x0) H)
   (round:∀x,I x->B (fY9 I E G μ x Q) (E x) (G x))
 |mkL {α:Type} (I:α->Prop) (E:α->Env) (G:α->HP) (μ:α->Nat) (x0:α) (J:α->Prop) (hJ:∀x,I x->∀w,(∀y∈G x,y.sat w)->J x) (hI:I x0) (hE:EnvLe (E x0) env) (hG:HLe (G x0) H)
   (round:∀x,I x->J x->B (fY9 I E G μ x Q) (E x) (G x))
inductive VMid {α:Type} (I:α->Prop) (E:α->Env) (G:α->HP) (env:Env) (H:HP):Prop
 |mk (y:α) (hI:I y) (hE:EnvLe (E y) env) (hG:HLe (G y) H)
def cG6:Code->Nat
 | .region id _ _=>id
 | .seq a _=>cG6 a
 | .cond _ a _=>cG6 a
 | .block _ c=>cG6 c
 | .loop c=>cG6 c
 | .scope c=>cG6 c
 |_=>1000000
inductive VSeq (at_:Nat) (H:HP) (A:(Env->HP->Prop)->Prop) (B:Env->HP->Prop):Prop
 |go (h:A B)
 |learn {p:Prop} (hp:∀w,(∀x∈H,x.sat w)->p) (h:p->A B)
 |cut {α:Type} (I:α->Prop) (E:α->Env) (G:α->HP) (h1:A (VMid I E G)) (h2:∀y,I y->B (E y) (G y))
 |cutL {α:Type} (I:α->Prop) (E:α->Env) (G:α->HP) (J:α->Prop) (hJ:∀y,I y->∀w,(∀x∈G y,x.sat w)->J y) (h1:A (VMid I E G)) (h2:∀y,I y->J y->B (E y) (G y))
def lZ4 (n:Nat)(w0:World)(M:List Nat)(Q:cC9):Exit->Act->World->Prop
 | .panic _,_,_=>False
 | .outgrown,_,_=>False
 |e,a,w=>∃env H,Rep n env a/\St w0 M H w/\Q e env H
inductive VRange (C:Cx) (F:Fx) (rd:Option Nat) (w0:World) (M:List Nat) (g:Operand) (ps:Array Tmp) (assign body:Code) (ok:Bool) (Q:cC9) (env:Env) (H:HP):Prop
 |mk (h:ok=true->∀a w,Rep F.n env a->St w0 M H w->(Code.rangeFunc g ps assign body).wpIn (fw rd) 0 C.P (lZ4 F.n w0 M Q) a w)
def bQ3 (F:Fx):Code->Bool
 | .region id ops draw=>
  match draw with
  |false=>true
  |true=>
   match gY1 F.plans id with
   |some r=>cB2 ops.toList&&(Region.noSelect ops&&bW5 ops.toList r.ex r.mu r.p.ylds ops.toList.length (Array.replicate ops.toList.length false) true r.p)
   |none=>false
 | .seq a b=>bQ3 F a&&bQ3 F b
 | .cond _ a b=>bQ3 F a&&bQ3 F b
 | .block _ c=>bQ3 F c
 | .loop c=>bQ3 F c
 | .scope c=>bQ3 F c
 | .rangeFunc _ _ a b=>bQ3 F a&&bQ3 F b
 |_=>true
def cP2 (C:Cx)(F:Fx)(rd:Option Nat)(w0:World)(M:List Nat):Code->cC9->Env->HP->Prop
 | .skip=>fun Q env H=>Q .normal env H
 | .label _=>fun Q env H=>Q .normal env H
 | .region id ops draw=>fun Q env H=>
  match draw with
  |false=>lJ5 C F.n w0 M ops.toList ops.toList env H fun env' H'=>Q .normal env' H'
  |true=>
   match gY1 F.plans id with
   |some r=>VHs H fun Hs=>planE C F.n w0 M ops.toList r.mu Hs r.p env H fun env' H'=>Q .normal env' H'
   |none=>False
 | .seq a b=>fun Q env H=>VSeq (cG6 b) H (fun k=>cP2 C F rd w0 M a (lC7 k Q) env H) (cP2 C F rd w0 M b Q)
 | .cond c a b=>fun Q env H=>
  match ev env c with
  |some (.bool t)=>dM7 t (cP2 C F rd w0 M a Q env H) (cP2 C F rd w0 M b Q env H)
  |_=>False
 | .block id c=>fun Q env H=>cP2 C F rd w0 M c (kD5 id Q) env H
 | .loop c=>fun Q env H=>VLoop (cP2 C F rd w0 M c) Q env H
 | .exit id=>fun Q env H=>Q (.exit id) env H
 | .ret=>fun Q env H=>Q .ret env H
 | .rangeFunc g ps x y=>fun Q env H=>VRange C F rd w0 M g ps x y (bQ3 F x&&bQ3 F y) Q env H
 | .scope c=>fun Q env H=>cP2 C F rd w0 M c (lJ6 Q) env H
 |_=>fun _ _ _=>False
theorem bB4 {P:Program}{b:Frame}{a:Act}{k:List Item}{cs:List Frame}{w:World}{c:Code}:step P (lone (b.atR a (.code (.scope c)::k)) cs w)=.next (lone (b.atR a (.code c::.inScope c::k)) cs w):=
 step_lone_go (by simp [stepG,stepG.exec,Frame.atR])
theorem dD2 {P:Program}{b:Frame}{a:Act}{k:List Item}{cs:List Frame}{w:World}{c:Code}:step P (lone (b.atR a (.inScope c::k)) cs w)=.next (lone (b.atR a k) cs w):=
 step_lone_go (by simp [stepG,stepG.exec,Frame.atR])
theorem fC2 {rd:Option Nat}{P:Program}{c:Code}{Q:Exit->Act->World->Prop}{a:Act}{w:World}(h:c.wpIn (fw rd) 0 P Q a w)(hg:∀l a w,¬Q (.goto l) a w):(Code.scope c).wpIn (fw rd) 0 P Q a w:=by
 intro b k cs hro hb hr
 have h0:(lone (b.atR a (.code (.scope c)::k)) cs w).fenced P (fw rd):=fenced_calm hb hr rfl
 obtain ⟨e,a₁,w₁,hq,harr⟩:=h b (.inScope c::k) cs hro hb hr
 cases e with
 |normal=>exact ⟨.normal,a₁,w₁,hq,.head h0 bB4 (StepsIn.trans harr (.one (fenced_calm hb hr rfl) dD2))⟩
 |exit id'=>
  have hx:exitTo id' (.inScope c::k)=exitTo id' k:=by simp [exitTo]
  exact ⟨.exit id',a₁,w₁,hq,fun k' hk=>.head h0 bB4 (harr.1 k' (by rw [hx];exact hk)),
   fun hr' hk=>let ⟨k₁,h1,h2⟩:=harr.2 hr' (by rw [hx];exact hk);⟨k₁,h1,.head h0 bB4 h2⟩⟩
 |goto l=>exact absurd hq (hg l _ _)
 |ret=>exact ⟨_,a₁,w₁,hq,.of_steps (.one h0 bB4) harr⟩
 |panic ch=>exact ⟨_,a₁,w₁,hq,.of_steps (.one h0 bB4) harr⟩
 |outgrown=>exact ⟨_,a₁,w₁,hq,.of_steps (.one h0 bB4) harr⟩
theorem cJ9 {rd:Option Nat}{P:Program}{α:Type}{c:Code}{Q:Exit->Act->World->Prop}(I:α->Act->World->Prop)(μ:α->Nat)
  (round:∀x a w,I x a w->c.wpIn (fw rd) 0 P (Exit.then (fun a' w'=>∃y,I y a' w'/\μ y<μ x) Q) a w):∀x a w,I x a w->(Code.loop c).wpIn (fw rd) 0 P Q a w:=by
 intro x a w hI b k cs hro hb hr
 have key:∀j x a w,μ x=j->I x a w->
   ∃e a' w',Q e a' w'/\ArrivesIn (Machine.fenced P (fw rd)) P (lone (b.atR a (.code c::.inLoop c::k)) cs w) b k cs e a' w':=by
  intro j
  induction j using Nat.strongRecOn with
  |_ j ih=>
   intro x a w hn hI
   obtain ⟨e,a₁,w₁,hq,harr⟩:=round x a w hI b (.inLoop c::k) cs hro hb hr
   cases e with
   |normal=>
    obtain ⟨y,hI₁,hlt⟩:=hq
    obtain ⟨e₂,a₂,w₂,hq₂,harr₂⟩:=ih (μ y) (hn▸hlt) y a₁ w₁ rfl hI₁
    exact ⟨e₂,a₂,w₂,hq₂,.of_steps (StepsIn.trans harr (.one (fenced_calm hb hr rfl) stepR_inLoop)) harr₂⟩
   |exit id=>exact ⟨_,a₁,w₁,hq,.pass (x:=.inLoop c) rfl (fun _ _=>.inl oU) harr⟩
   |goto l=>exact ⟨_,a₁,w₁,hq,.pass (x:=.inLoop c) rfl (fun _ _=>.inl oU) harr⟩
   |ret=>exact ⟨_,a₁,w₁,hq,.pass (x:=.inLoop c) rfl (fun _ _=>.inl oU) harr⟩
   |panic ch=>exact ⟨_,a₁,w₁,hq,.pass (x:=.inLoop c) rfl (fun _ _=>.inl oU) harr⟩
   |outgrown=>exact ⟨_,a₁,w₁,hq,.pass (x:=.inLoop c) rfl (fun _ _=>.inl oU) harr⟩
 obtain ⟨e,a',w',hq,harr⟩:=key _ x a w rfl hI
 exact ⟨e,a',w',hq,.of_steps (.one (fenced_calm hb hr rfl) stepR_loop) harr⟩
theorem bK4 {C:Cx}{F:Fx}{rd:Option Nat}{w0:World}{M:List Nat}:∀(c:Code) (Q:cC9) (env:Env) (H:HP) (a:Act) (w:World),bQ3 F c=true->
  Rep F.n env a->St w0 M H w->cP2 C F rd w0 M c Q env H->c.wpIn (fw rd) 0 C.P (lZ4 F.n w0 M Q) a w
 | .skip,Q,env,H,a,w,_,hr,hs,h=>wpIn_skip ⟨env,H,hr,hs,h⟩
 | .label l,Q,env,H,a,w,_,hr,hs,h=>wpIn_label ⟨env,H,hr,hs,h⟩
 | .region id ops false,Q,env,H,a,w,_,hr,hs,h=>by
  have:=dL8 (rd:=rd) (Q:=lZ4 F.n w0 M Q) (K:=fun env' H'=>Q .normal env' H') (fun a w ⟨env,H,h1,h2,h3⟩=>⟨env,H,h1,h2,h3⟩) ops.toList env H a w hr hs h
  exact wpIn_region_list (by simpa using this)
 | .region id ops true,Q,env,H,a,w,hok,hr,hs,h=>by
  simp only [cP2] at h
  simp only [bQ3] at hok
  cases hp:gY1 F.plans id with
  |none=>simp [hp] at h
  |some r=>
   simp only [hp] at h hok
   cases h with
   |mk Hs hl hk=>
    have:=dY1 (rd:=rd) (C:=C) (ops:=ops.toList) (id:=id) (Q:=lZ4 F.n w0 M Q) (by simpa using hok) hr hs hl hk (fun a w ⟨env,H,h1,h2,h3⟩=>⟨env,H,h1,h2,h3⟩)
    simpa using this
 | .seq x y,Q,env,H,a,w,hok,hr,hs,h=>by
  simp only [bQ3,Qd] at hok
  cases h with
  |go h=>
   refine wpIn_seq (wpIn_mono (bK4 x _ env H a w hok.1 hr hs h) fun e a' w' hq=>?_)
   cases e with
   |normal=>obtain ⟨env',H',hr',hs',hq⟩:=hq;exact bK4 y Q env' H' a' w' hok.2 hr' hs' hq
   |_=>exact hq
  |learn hp h=>
   refine wpIn_seq (wpIn_mono (bK4 x _ env H a w hok.1 hr hs (h (hp w hs.own))) fun e a' w' hq=>?_)
   cases e with
   |normal=>obtain ⟨env',H',hr',hs',hq⟩:=hq;exact bK4 y Q env' H' a' w' hok.2 hr' hs' hq
   |_=>exact hq
  |cut I E G h1 h2=>
   refine wpIn_seq (wpIn_mono (bK4 x _ env H a w hok.1 hr hs h1) fun e a' w' hq=>?_)
   cases e with
   |normal=>
    obtain ⟨env',H',hr',hs',hq⟩:=hq
    cases hq with
    |mk z g1 g2 g3=>exact bK4 y Q (E z) (G z) a' w' hok.2 (hr'.le g2) (hs'.le g3) (h2 z g1)
   |_=>exact hq
  |cutL I E G J hJ h1 h2=>
   refine wpIn_seq (wpIn_mono (bK4 x _ env H a w hok.1 hr hs h1) fun e a' w' hq=>?_)
   cases e with
   |normal=>
    obtain ⟨env',H',hr',hs',hq⟩:=hq
    cases hq with
    |mk z g1 g2 g3=>exact bK4 y Q (E z) (G z) a' w' hok.2 (hr'.le g2) (hs'.le g3) (h2 z g1 (hJ z g1 w' (hs'.le g3).own))
   |_=>exact hq
 | .cond c x y,Q,env,H,a,w,hok,hr,hs,h=>by
  simp only [bQ3,Qd] at hok
  simp only [cP2] at h
  split at h
  ·rename_i t ht
   refine wpIn_cond (t:=t) (hr.eval ht) ?_
   have:=dP0 h
   cases t
   ·exact bK4 y Q env H a w hok.2 hr hs (by simpa using this)
   ·exact bK4 x Q env H a w hok.1 hr hs (by simpa using this)
  ·exact h.elim
 | .block id c,Q,env,H,a,w,hok,hr,hs,h=>by
  refine wpIn_block (wpIn_mono (bK4 c _ env H a w (by simpa [bQ3] using hok) hr hs h) fun e a' w' hq=>?_)
  cases e with
  |exit j=>
   obtain ⟨env',H',hr',hs',hq⟩:=hq
   simp only [kD5] at hq
   cases hb:Nat.beq j id with
   |true=>
    simp only [hb] at hq
    have:=qE hb
    simp only [Exit.inBlock,this,if_true]
    exact ⟨env',H',hr',hs',hq⟩
   |false=>
    simp only [hb] at hq
    have:=Nat.ne_of_beq_eq_false hb
    simp only [Exit.inBlock,this,if_false]
    exact ⟨env',H',hr',hs',hq⟩
  |_=>exact hq
 | .loop c,Q,env,H,a,w,hok,hr,hs,h=>by
  cases h with
  |@mk α I E G μ x0 hI hE hG round=>
   refine cJ9 (fun x a w=>I x/\Rep F.n (E x) a/\St w0 M (G x) w) μ (fun x a w ⟨h1,h2,h3⟩=>?_) x0 a w ⟨hI,hr.le hE,hs.le hG⟩
   refine wpIn_mono (bK4 c _ (E x) (G x) a w (by simpa [bQ3] using hok) h2 h3 (round x h1)) fun e a' w' hq=>?_
   cases e with
   |normal=>
    obtain ⟨env',H',hr',hs',hq⟩:=hq
    cases hq with
    |mk y g1 g2 g3 g4=>exact ⟨y,⟨g1,hr'.le g3,hs'.le g4⟩,g2⟩
   |_=>exact hq
  |@mkL α I E G μ x0 J hJ hI hE hG round=>
   refine cJ9 (fun x a w=>I x/\Rep F.n (E x) a/\St w0 M (G x) w) μ (fun x a w ⟨h1,h2,h3⟩=>?_) x0 a w ⟨hI,hr.le hE,hs.le hG⟩
   refine wpIn_mono (bK4 c _ (E x) (G x) a w (by simpa [bQ3] using hok) h2 h3 (round x h1 (hJ x h1 w h3.own))) fun e a' w' hq=>?_
   cases e with
   |normal=>
    obtain ⟨env',H',hr',hs',hq⟩:=hq
    cases hq with
    |mk y g1 g2 g3 g4=>exact ⟨y,⟨g1,hr'.le g3,hs'.le g4⟩,g2⟩
   |_=>exact hq
 | .exit id,Q,env,H,a,w,_,hr,hs,h=>wpIn_exit ⟨env,H,hr,hs,h⟩
 | .ret,Q,env,H,a,w,_,hr,hs,h=>wpIn_ret ⟨env,H,hr,hs,h⟩
 | .rangeFunc g ps x y,Q,env,H,a,w,hok,hr,hs,h=>by
  cases h with
  |mk h=>exact h hok a w hr hs
 | .scope c,Q,env,H,a,w,hok,hr,hs,h=>by
  refine wpIn_mono (fC2 (bK4 c _ env H a w (by simpa [bQ3] using hok) hr hs h) ?_) ?_
  ·rintro l a w ⟨_,_,_,_,hf⟩
   exact hf
  ·intro e a' w' hq
   cases e with
   |panic _=>exact hq
   |outgrown=>exact hq
   |goto l=>
    obtain ⟨_,_,_,_,hf⟩:=hq
    exact hf.elim
   |_=>
    obtain ⟨env',H',hr',hs',hq⟩:=hq
    exact ⟨env',H',hr',hs',hq⟩
 | .goto _,Q,env,H,a,w,_,hr,hs,h=>h.elim
 | .refuse _,Q,env,H,a,w,_,hr,hs,h=>h.elim
def dP2:Nat->List Value->Env
 |_,[]=>[(dk,.tuple #[])]
 |i,v::r=>(i,v)::dP2 (i+1) r
inductive VRet (w0:World) (M:List Nat) (R:Ending->World->Prop) (H:HP) (v:Value):Prop
 |mk (h:∀w,St w0 M H w->R (.returned v) w)
def kX0 (L:Lay)(w0:World)(M:List Nat)(env:Env)(H:HP):List ResultVar->List Value->(List Value->Prop)->Prop
 |[],acc,k=>k acc
 | .tmp t::r,acc,k=>
  match look env t with
  |some v=>kX0 L w0 M env H r (acc++[v]) k
  |none=>False
 | .cell t ty::r,acc,k=>kK5 L w0 M H env ty (.tmp t) fun v=>kX0 L w0 M env H r (acc++[v]) k
def cV1:List Value->Value
 |[v]=>v
 |l=>.tuple l.toArray
inductive VUn (H:HP) (b:Nat) (k:HP->Prop):Prop
 |mk {u:Ent->HP} {r:HP} (hat:At H (.obj b (.deferred (some []))) u r) (hk:k r)
def unE:List Value->HP->(HP->Prop)->Prop
 |[],H,k=>k H
 |v::r,H,k=>
  match v with
  | .pointer (some a)=>VUn H a.block fun H'=>unE r H' k
  |_=>False
def mK3 (C:Cx)(w0:World)(M:List Nat)(rs:List ResultVar)(K:Value->HP->Prop):cC9:=fun e env H=>
 match e with
 | .normal| .ret=>
  match find env 1000000 with
  |some (.tuple ms)=>unE ms.toList H fun H'=>kX0 C.L w0 M env H' rs [] fun vs=>K (cV1 vs) H'
  |_=>False
 |_=>False
def dG8 (tmps:Array Value):ResultVar->Sem Value
 | .tmp t=>pure (tmps.getD t undef)
 | .cell p t=>do loadVar t (<-asAddr (tmps.getD p undef))
theorem fQ0 {C:Cx}{n:Nat}{w0:World}{M:List Nat}{env:Env}{H:HP}{a:Act}{w:World}(hr:Rep n env a)(hs:St w0 M H w):
  ∀(rs:List ResultVar) (acc:List Value) (k:List Value->Prop),kX0 C.L w0 M env H rs acc k->
   ∃vs,k (acc++vs)/\(rs.mapM (dG8 a.tmps):Sem (List Value)).run C.P w=.ok vs w
 |[],acc,k,h=>⟨[],by simpa [kX0] using h,by simp⟩
 | .tmp t::r,acc,k,h=>by
  simp only [kX0] at h
  cases h1:look env t with
  |none=>simp [h1] at h
  |some v=>
   simp only [h1] at h
   obtain ⟨vs,g1,g2⟩:=fQ0 hr hs r _ k h
   have:=hr.get t v h1
   refine ⟨v::vs,by simpa using g1,?_⟩
   have h1:(dG8 a.tmps (.tmp t)).run C.P w=.ok v w:=by simp [dG8,this]
   simp only [List.mapM_cons,Sem.run_bind,Sem.run_pure,Result.andThen_ok,g2,h1]
 | .cell t ty::r,acc,k,h=>by
  simp only [kX0] at h
  have hrd:hV3 C w0 M H (.load ty (.tmp t)) env (fun v=>kX0 C.L w0 M env H r (acc++[v]) k):=h
  obtain ⟨v, g1, g2⟩ := dY3 (o := ⟨none, .load ty (.tmp t), 0, "", #[], none⟩) hr hrd
  obtain ⟨vs,g3,g4⟩:=fQ0 hr hs r _ k g1
  have h2:=g2 w hs
  refine ⟨v::vs,by simpa using g3,?_⟩
  unfold kK5 at h
  split at h
  ·rename_i b off hb
   have hb':=hr.get t _ hb
   have hload:(loadVar ty ⟨b,off,none⟩).run C.P w=.ok v w:=by
    simp only [execOp,Act.eval,Instr.loadAt,Sem.run_bind,hb',Array.getD_eq_getD_getElem?,qY,Instr.sureAddr,Sem.run_pure,Result.andThen_ok] at h2
    generalize (loadVar ty ⟨b,off,none⟩).run C.P w=q at h2
    cases q with
    |ok x w'=>simp at h2;obtain ⟨rfl,rfl⟩:=h2;rfl
    |halt x w'=>simp [Result.andThen] at h2
   have h1:(dG8 a.tmps (.cell t ty)).run C.P w=.ok v w:=by
    simp only [dG8,Array.getD_eq_getD_getElem?,hb',qY,asAddr,Sem.run_bind,Sem.run_pure,Result.andThen_ok,hload]
   simp only [List.mapM_cons,Sem.run_bind,Sem.run_pure,Result.andThen_ok,g4,h1]
  ·exact h.elim
theorem dS2:∀(vs:List Value) (i t:Nat) (v:Value),find (dP2 i vs) t=some v->t≠dk->i<=t/\vs[t - i]? =some v
 |[],i,t,v,h,hne=>by
  simp only [dP2,find] at h
  cases hb:Nat.beq dk t with
  |true=>exact absurd (qE hb).symm hne
  |false=>simp [hb] at h
 |x::r,i,t,v,h,hne=>by
  simp only [dP2,find] at h
  cases hb:Nat.beq i t with
  |true=>
   simp only [hb,qK] at h
   have:=qE hb
   subst this
   simp [h]
  |false=>
   simp only [hb] at h
   have hne':=Nat.ne_of_beq_eq_false hb
   obtain ⟨h1,h2⟩:=dS2 r (i+1) t v h hne
   refine ⟨by omega,?_⟩
   rw [show t - i=(t - (i+1))+1 from by omega]
   simpa using h2
theorem gB9:∀(vs:List Value) (i:Nat) (v:Value),i+vs.length<=dk->find (dP2 i vs) dk=some v->v=.tuple #[]
 |[],i,v,_,h=>by simp [dP2,find] at h;exact h.symm
 |x::r,i,v,hl,h=>by
  simp only [dP2,find] at h
  simp only [qR] at hl
  cases hb:Nat.beq i dk with
  |true=>have:=qE hb;omega
  |false=>simp only [hb] at h;exact gB9 r (i+1) v qZ h
theorem St.putObj {w0:World}{M:List Nat}{x y:Ent}{r:HP}{w:World}{b:Nat}{o:Obj}(h:St w0 M (x::r) w)(hx:x.id=some b)(hy:y.id=some b)(hs:y.sat (w.putObj b o)):St w0 M (y::r) (w.putObj b o):=
 h.step rfl rfl rfl oU (fun c _ hne=>World.putObj_heap_other (fun e=>hne (by rw [hx,e]))) hs (fun c hc=>.inl (by rw [hx,<-hy,hc]))
theorem hQ2 {C:Cx}{w0:World}{M:List Nat}{fn:Func}{tmps:Array Value}{R:Ending->World->Prop}{k:HP->Prop}(hk:∀H w,St w0 M H w->k H->∃v,(results fn tmps).run C.P w=.ok v w/\R (.returned v) w):
  ∀(ms:List Value) (H:HP) (w:World),St w0 M H w->unE ms H k->LeavesInM Fence.wide 0 C.P fn tmps R (ms.filterMap fH8) .returning w
 |[],H,w,hs,h=>hk H w hs h
 |v::ms,H,w,hs,h=>by
  simp only [unE] at h
  split at h
  ·rename_i a
   cases h with
   |mk hat hk'=>
    have hp:=hs.perm hat.perm
    have hb:w.heap[a.block]? =some (.deferred (some [])):=hp.own (.obj a.block (.deferred (some []))) oU
    simp only [List.filterMap_cons,fH8]
    refine ⟨by simp,.inl ⟨a.block,_,rfl,run_takeDeferred hb,?_⟩⟩
    refine hQ2 hk ms _ _ ?_ hk'
    exact (hp.putObj (b:=a.block) (y:=.obj a.block (.deferred none)) rfl rfl (World.putObj_heap_same (Qh.1 hb).1)).tail
  ·exact h.elim
theorem gB2 {C:Cx}{F:Fx}{f:Nat}{fn:Func}{c:Code}{args:List Value}{M:List Nat}{H:HP}{w0 w:World}{K:Value->HP->Prop}
  (hf:C.P.funcs[f]? =some fn) (hb:fn.body=some c) (hn:fn.ntmps=F.n) (hargs:args.length<=F.n) (hdk:F.n<=dk) (hok:bQ3 F c=true) (hs:St w0 M H w)
  (h:cP2 C F none w0 M c (mK3 C w0 M fn.results.toList K) (dP2 0 args) H):Calls C.P f args.toArray w fun e w'=>∃v H',e=.returned v/\St w0 M H' w'/\K v H':=by
 refine (callsIn_wide (n:=0)).1 (callsIn_of_wp_marks hf hb trivial ?_)
 have hr:Rep F.n (dP2 0 args) {tmps:=args.toArray++Array.replicate (fn.ntmps - args.toArray.size) undef,defers:=[]}:=by
  refine ⟨by simp [hn];omega,hdk,fun v hv=>?_,fun t v ht=>?_⟩
  ·rw [gB9 args 0 v qZ hv];rfl
  ·obtain ⟨ht,hne⟩:=cV9 ht
   obtain ⟨_,h2⟩:=dS2 args 0 t v ht hne
   simp only [Nat.sub_zero] at h2
   have hlt:=(qx.1 h2).1
   simp only [Array.getElem?_append,List.size_toArray,hlt,if_true,List.getElem?_toArray,h2]
 refine wpIn_mono (bK4 c _ _ H _ w hok hr hs h) fun e a' w' hq=>?_
 have fin:∀env H,Rep F.n env a'->St w0 M H w'->(match find env 1000000 with
   |some (.tuple ms)=>unE ms.toList H fun H'=>kX0 C.L w0 M env H' fn.results.toList [] fun vs=>K (cV1 vs) H'
   |_=>False)->LeavesInM Fence.wide 0 C.P fn a'.tmps (fun e w'=>∃v H',e=.returned v/\St w0 M H' w'/\K v H') a'.defers .returning w':=by
  intro env H hr' hs' hres
  split at hres
  ·rename_i ms hms
   rw [hr'.defers _ hms]
   refine hQ2 (C:=C) (fun H'' w'' hs'' hres=>?_) ms.toList H w' hs' hres
   obtain ⟨vs,g1,g2⟩:=fQ0 hr' hs'' _ _ _ hres
   refine ⟨cV1 vs,?_,?_⟩
   ·have hm:(fn.results.mapM (dG8 a'.tmps):Sem (Array Value)).run C.P w''=.ok vs.toArray w'':=by
     rw [Array.mapM_eq_mapM_toList]
     simp [g2]
    show ((fn.results.mapM (dG8 a'.tmps)>>=fun vs=>pure (if h:vs.size=1 then vs[0] else .tuple vs)):Sem Value).run C.P w''=_
    rw [Sem.run_bind,hm,Result.andThen_ok,Sem.run_pure]
    congr 1
    match vs with
    |[]=>simp [cV1]
    |[v]=>simp [cV1]
    |x::y::r=>simp [cV1]
   ·exact ⟨_,H'',rfl,hs'',by simpa using g1⟩
  ·exact hres.elim
 cases e with
 |normal=>obtain ⟨env,H,h1,h2,h3⟩:=hq;exact fin env H h1 h2 h3
 |ret=>obtain ⟨env,H,h1,h2,h3⟩:=hq;exact fin env H h1 h2 h3
 |panic _=>exact hq.elim
 |outgrown=>exact hq.elim
 |exit _=>obtain ⟨_,_,_,_,h⟩:=hq;exact h.elim
 |goto _=>obtain ⟨_,_,_,_,h⟩:=hq;exact h.elim
theorem enter {C:Cx}{F:Fx}{f:Nat}{fn:Func}{args:List Value}{M:List Nat}{H:HP}{w:World}{R:Ending->World->Prop}
  (hf:C.P.funcs[f]? =some fn) (hb:fn.body.isSome=true) (hn:fn.ntmps=F.n) (hargs:(Nat.ble (dF9 args) F.n&&Nat.ble F.n dk)=true) (hok:bQ3 F (fn.body.getD .skip)=true) (hs:St w M H w)
  (h:cP2 C F none w M (fn.body.getD .skip) (mK3 C w M fn.results.toList fun v H=>VRet w M R H v) (dP2 0 args) H):Calls C.P f args.toArray w R:=by
 simp only [Qd] at hargs
 cases hc:fn.body with
 |none=>simp [hc] at hb
 |some c=>
  rw [hc] at hok h
  refine Calls.mono (gB2 hf hc hn (by rw [<-bM8];exact QO hargs.1) (QO hargs.2) hok hs h) fun e w' he=>?_
  obtain ⟨v,H',rfl,hs',hk⟩:=he
  cases hk with
  |mk h=>exact h w' hs'
theorem VCall.inl {C:Cx}{F:Fx}{f:Nat}{fn:Func}{args:List Value}{w0:World}{M:List Nat}{H:HP}{K:Value->HP->Prop}
  (hf:C.P.funcs[f]? =some fn) (hb:fn.body.isSome=true) (hn:fn.ntmps=F.n) (hargs:(Nat.ble (dF9 args) F.n&&Nat.ble F.n dk)=true) (hok:bQ3 F (fn.body.getD .skip)=true)
  (h:cP2 C F none w0 M (fn.body.getD .skip) (mK3 C w0 M fn.results.toList K) (dP2 0 args) H):VCall C.P w0 M H f args K:=by
 simp only [Qd] at hargs
 cases hc:fn.body with
 |none=>simp [hc] at hb
 |some c=>
  rw [hc] at hok h
  exact .mk fun w hs=>gB2 hf hc hn (by rw [<-bM8];exact QO hargs.1) (QO hargs.2) hok hs h
theorem VCall.val {P:Program}{w0:World}{M:List Nat}{H:HP}{f:Nat}{args:List Value}{v:Value}{K:Value->HP->Prop}
  (hc:∀w,Calls P f args.toArray w fun e w'=>e=.returned v/\St w [] [] w') (hk:K v H):VCall P w0 M H f args K:=
 .mk fun w hw=>(hc w).mono fun e w' ⟨he,h'⟩=>⟨v,H,he,hw.call_fresh h',hk⟩
theorem VCall.bool {P:Program}{w0:World}{M:List Nat}{H:HP}{f:Nat}{args:List Value}{p:Prop}{K:Value->HP->Prop}
  (hc:∀w,Calls P f args.toArray w fun e w'=>∃b:Bool,e=.returned (.bool b)/\(b=true<->p)/\St w [] [] w') (hk:VB p fun b=>K (.bool b) H):VCall P w0 M H f args K:=
 .mk fun w hw=>(hc w).mono fun e w' ⟨b,he,hb,h'⟩=>⟨.bool b,H,he,hw.call_fresh h',hk.use b hb⟩
theorem VCall.ex {P:Program}{w0:World}{M:List Nat}{H:HP}{f:Nat}{args:List Value}{α:Type}{v:α->Value}{p:α->Prop}{K:Value->HP->Prop}
  (hc:∀w,Calls P f args.toArray w fun e w'=>∃x:α,e=.returned (v x)/\p x/\St w [] [] w') (hk:∀x,p x->K (v x) H):VCall P w0 M H f args K:=
 .mk fun w hw=>(hc w).mono fun e w' ⟨x,he,hb,h'⟩=>⟨v x,H,he,hw.call_fresh h',hk x hb⟩
theorem VCall.gen {P:Program}{w0:World}{M:List Nat}{H:HP}{f:Nat}{args:List Value}{α:Type}{v:α->Value}{p:α->Prop}{G:α->HP}{K:Value->HP->Prop}
  (hc:∀w,Calls P f args.toArray w fun e w'=>∃x:α,e=.returned (v x)/\p x/\St w [] (G x) w') (hk:∀x,p x->K (v x) (G x++H)):VCall P w0 M H f args K:=
 .mk fun w hw=>(hc w).mono fun e w' ⟨x,he,hb,h'⟩=>⟨v x,G x++H,he,hw.call_fresh h',hk x hb⟩
theorem St.call_at {w0:World}{M:List Nat}{H H1 r:HP}{x:Ent}{u:Ent->HP}{b:Nat}{w w':World}(h:St w0 M H w)(hat:At H x u r)(hb:x.id=some b)(h1:St w [b] H1 w'):St w0 M (H1++r) w':=by
 have hp:=h.perm hat.perm
 refine hp.tail.call h1 (HLe.refl r) (fun c hc=>?_) (fun c hc hcb=>?_)
 ·simp only [qt] at hc
  subst hc
  exact hp.from_ c (by rw [bB2,hb];simp)
 ·simp only [qt] at hcb
  subst hcb
  exact hp.apart hb hc
theorem VCall.turn {P:Program}{w0:World}{M:List Nat}{H r:HP}{f:Nat}{args:List Value}{α:Type}{v:α->Value}{p:α->Prop}{G:α->HP}{K:Value->HP->Prop}{b e:Nat}{cs:List Value}{u:Ent->HP}
  (hat:At H (.row b e cs) u r)
  (hc:∀w,w.heap[b]? =some (.cells cs.toArray e (0,0))->Calls P f args.toArray w fun e w'=>∃x:α,e=.returned (v x)/\p x/\St w [b] (G x) w') (hk:∀x,p x->K (v x) (G x++r)):VCall P w0 M H f args K:=
 .mk fun w hw=>(hc w (hw.own _ hat.mem)).mono fun e w' ⟨x,he,hb,h'⟩=>⟨v x,G x++r,he,hw.call_at hat rfl h',hk x hb⟩
theorem cC7 {w:World}{b e:Nat}{cs:List Value}(h:w.heap[b]? =some (.cells cs.toArray e (0,0))):St w [b] [.row b e cs] w:=
 ⟨rfl,rfl,rfl,qA _,fun _ _ _=>rfl,by intro x hx;simp only [qt] at hx;subst hx;exact h,by simp [ids,Ent.id],by simp [ids,Ent.id]⟩
end Go.Vx
end
section
set_option linter.unusedSimpArgs false
set_option linter.unusedVariables false
namespace Go.Vx
open Go Go.RowKit
def kS6 (Q:cC9)(env:Env)(H:HP):Option Code->Prop
 |none=>Q .normal env H
 |some .ret=>Q .ret env H
 |some (.exit id)=>Q (.exit id) env H
 |some (.goto t)=>Q (.goto t) env H
 |_=>False
abbrev hT5:=LoopState->Option Code->Ent
inductive VEnd (L:hT5) (H:HP) (k:Option Code->HP->Prop):Prop
 |mk {s:LoopState} {pe:Option Code} {u:Ent->HP} {r:HP} (hat:At H (L s pe) u r) (hs:s≠ .busy) (hk:k pe r)
def cR0 (C:Cx)(w0:World)(M:List Nat)(env:Env)(H:HP)(g:Operand)(l:Nat)(K:Value->HP->Prop):Prop:=
 match ev env g with
 |some (.func (.func f) first captured)=>
  match fL6 C.fns f with
  |true=>VCall C.P w0 M H f (first.toList++(.func (.yield l) #[] #[]::captured.toList)) K
  |false=>False
 |_=>False
section
variable {C : Cx} {F : Fx} {w0 : World} {M : List Nat} {g : Operand} {ps : Array Tmp} {x y : Code} {Q : cC9} {env : Env} {H : HP}
theorem fQ1 {rd:Option Nat}{n:Nat}{a:Act}{w:World}{l:Nat}{K:Value->HP->Prop}(hr:Rep n env a)(hs:St w0 M H w)(h:cR0 C w0 M env H g l K):
  ∃(d:Deferred) (f:Nat) (args:Array Value),(resolve a.eval (rangeCall g l) 0).run C.P w=.ok d w/\(invoke d.target d.args).run C.P w=.ok (.enter f args) w/\
   CallsIn (fw rd) (0 - 1) C.P f args w fun e w'=>∃v H',e=.returned v/\St w0 M H' w'/\K v H':=by
 unfold cR0 at h
 split at h
 ·rename_i f first captured hf
  cases h1:fL6 C.fns f with
  |false=>simp [h1] at h
  |true=>
   simp only [h1] at h
   obtain ⟨fn,g1,g2,g3⟩:=C.okF f (cX4.1 h1)
   cases h with
   |mk h=>
    have hargs:first++#[.func (.yield l) #[] #[]]++captured=(first.toList++(.func (.yield l) #[] #[]::captured.toList)).toArray:=by
     apply QQ.1;simp
    refine ⟨{target:=.fn (.func f) captured,args:=first++#[.func (.yield l) #[] #[]]},f,_,?_,?_,dR8 (h w hs)⟩
    ·have hc:a.eval (.const (.func (.yield l) #[] #[]))=.func (.yield l) #[] #[]:=rfl
     simp [resolve,rangeCall,Deferred.ofValue,hr.eval hf,hc]
    ·rw [<-hargs]
     simp [invoke,dX6 g1 g2 g3]
 ·exact h.elim
theorem kV1 {rd:Option Nat}{pe:Option Code}{a:Act}{w:World}(hr:Rep F.n env a)(hs:St w0 M H w)(h:kS6 Q env H pe):
  (pe=none->lZ4 F.n w0 M Q .normal a w)/\∀c,pe=some c->c.wpIn (fw rd) 0 C.P (lZ4 F.n w0 M Q) a w:=by
 unfold kS6 at h
 split at h
 ·exact ⟨fun _=>⟨env,H,hr,hs,h⟩,by simp⟩
 ·exact ⟨by simp,fun c hc=>by cases hc;exact wpIn_ret ⟨env,H,hr,hs,h⟩⟩
 ·exact ⟨by simp,fun c hc=>by cases hc;exact wpIn_exit ⟨env,H,hr,hs,h⟩⟩
 ·exact ⟨by simp,fun c hc=>by cases hc;exact wpIn_goto ⟨env,H,hr,hs,h⟩⟩
 ·exact h.elim
def kP1 (env:Env)(k:List Value->Prop):Prop:=
 match find env 1000000 with
 |some (.tuple ms)=>k ms.toList
 |_=>False
theorem VRange.go {ms:List Value}(hm:kP1 env (ms=·))
  (h:bQ3 F x=true->bQ3 F y=true->∀(l d:Nat) (L:hT5),(L=fun s pe=>.loop l s pe F.n env ps x y d)->
   cR0 C w0 M env (L .ready none::.obj d (.deferred (some []))::H) g l fun _ H'=>VEnd L H' fun pe r=>kS6 Q ((1000000,.tuple (dZ3 d::ms).toArray)::env) r pe):
  VRange C F none w0 M g ps x y (bQ3 F x&&bQ3 F y) Q env H:=by
 refine .mk fun hok a w hr hs=>wpIn_rangeFunc fun fn _=>?_
 simp only [Qd] at hok
 have hd:a.defers=ms.filterMap fH8:=by
  unfold kP1 at hm
  split at hm
  ·rename_i vs hv
   rw [hr.defers _ hv,hm];rfl
  ·exact hm.elim
 have hs1:St w0 M (.obj w.heap.size (.deferred (some []))::H) (w.alloc (.deferred (some []))):=
  hs.new rfl rfl rfl oU (fun b hb=>Below.heap_alloc w _ b hb) (World.alloc_heap_new w _) (fun b hb=>by cases hb;exact qA _)
 have hs2:St w0 M (.loop (w.heap.size+1) .ready none F.n env ps x y w.heap.size::.obj w.heap.size (.deferred (some []))::H)
   ((w.alloc (.deferred (some []))).alloc (.loop {state:=.ready,pending:=none,fn,tmps:=a.tmps,params:=ps,assign:=x,body:=y,defers:=w.heap.size})):=by
  refine hs1.new rfl rfl rfl oU (fun b hb=>Below.heap_alloc _ _ b hb) ⟨fn,a.tmps,hr.size,hr.small,hr.get,?_⟩ (fun b hb=>by cases hb;simp)
  have:=World.alloc_heap_new (w.alloc (.deferred (some []))) (.loop {state:=.ready,pending:=none,fn,tmps:=a.tmps,params:=ps,assign:=x,body:=y,defers:=w.heap.size})
  rwa [World.size_alloc] at this
 obtain ⟨dd,f,args,h1,h2,h3⟩:=fQ1 (rd:=none) hr hs2 (h hok.1 hok.2 (w.heap.size+1) w.heap.size _ rfl)
 refine ⟨w.heap.size+1,[{target:=.collected w.heap.size,args:=#[]}],_,dd,_,f,args,_,run_enterLoop_outer _ _ _ _ _,h1,fun _ _=>trivial,h2,dJ8 none,h3.mono fun e w' he=>?_⟩
 obtain ⟨v,H',rfl,hs',hk⟩:=he
 cases hk with
 |@mk s pe u r hat hne hk=>
  have hp:=hs'.perm hat.perm
  obtain ⟨fn',tmps',_,_,_,hl⟩:=hp.own (.loop (w.heap.size+1) s pe F.n env ps x y w.heap.size) oU
  have hst:=(hp.putObj (b:=w.heap.size+1) (y:=.obj (w.heap.size+1) (.loop {state:=.exhausted,pending:=pe,fn:=fn',tmps:=tmps',params:=ps,assign:=x,body:=y,defers:=w.heap.size})) rfl rfl (World.putObj_heap_same (Qh.1 hl).1)).tail
  have hrep:Rep F.n ((1000000,.tuple (dZ3 w.heap.size::ms).toArray)::env) {a with defers:=[{target:=.collected w.heap.size,args:=#[]}]++a.defers}:=?_
  ·have hj:=kV1 (C:=C) (rd:=none) hrep hst hk
   refine ⟨pe,_,run_endLoop hl hne,?_⟩
   cases pe with
   |none=>exact hj.1 rfl
   |some c=>exact hj.2 c rfl
  refine ⟨hr.size,hr.small,fun v hv=>?_,fun t v ht=>?_⟩
  ·simp only [find] at hv
   have:Nat.beq 1000000 dk=true:=rfl
   simp only [this,qK] at hv
   subst hv
   simp [fL7,fH8,dZ3,hd]
  ·obtain ⟨ht,hne⟩:=cV9 ht
   simp only [find] at ht
   cases hb:Nat.beq 1000000 t with
   |true=>exact absurd (qE hb).symm hne
   |false=>simp only [hb] at ht;exact hr.get t v (cN8 ht hne)
def kM1 (n:Nat):List Tmp->List Value->Env->Option Env
 |[],[],env=>some env
 |p::ps,v::vs,env=>
  match Nat.blt p n with
  |true=>kM1 n ps vs ((p,v)::env)
  |false=>none
 |_,_,_=>none
theorem gK3 {n:Nat}:∀(ps:List Tmp) (vs:List Value) (env env':Env) (ts:Array Value),n<=dk->ts.size=n->(∀t v,look env t=some v->ts[t]? =some v)->kM1 n ps vs env=some env'->
  vs.length=ps.length/\((ps.zip vs).foldl (fun tmps (p:Nat×Value)=>tmps.setIfInBounds p.1 p.2) ts).size=n/\∀t v,look env' t=some v->((ps.zip vs).foldl (fun tmps (p:Nat×Value)=>tmps.setIfInBounds p.1 p.2) ts)[t]? =some v
 |[],[],env,env',ts,hdk,hsz,hget,h=>by
  simp only [kM1,qK] at h
  subst h
  exact ⟨rfl,hsz,hget⟩
 |p::ps,v::vs,env,env',ts,hdk,hsz,hget,h=>by
  simp only [kM1] at h
  cases hb:Nat.blt p n with
  |false=>simp [hb] at h
  |true=>
   simp only [hb] at h
   have hlt:p<n:=QO hb
   have hr:Rep n env {tmps:=ts,defers:=(match find env dk with|some v=>fL7 v|none=>[])}:=⟨hsz,hdk,fun v hv=>by simp [hv],hget⟩
   have hp:=hr.put hlt v
   have:=gK3 ps vs _ env' (ts.setIfInBounds p v) hdk hp.size hp.get h
   exact ⟨by simp [this.1],by simpa using this.2⟩
 |[],_::_,_,_,_,_,_,_,h=>by simp [kM1] at h
 |_::_,[],_,_,_,_,_,_,h=>by simp [kM1] at h
inductive VBegin (L:hT5) (H:HP) (k:HP->Prop):Prop
 |mk {pe:Option Code} {u:Ent->HP} {r:HP} (hat:At H (L .ready pe) u r) (hk:k (u (L .busy pe)))
inductive VRound (L:hT5) (j:Option Code) (H:HP) (k:HP->Prop):Prop
 |mk {s:LoopState} {pe:Option Code} {u:Ent->HP} {r:HP} (hat:At H (L s pe) u r) (hk:k (u (L (match j with|none=>.ready|some _=>.done) j)))
def lJ7 (L:hT5)(K:Value->HP->Prop):cC9:=fun e _ H=>
 match e with
 | .normal=>VRound L none H fun H'=>K (.bool true) H'
 | .ret=>VRound L (some .ret) H fun H'=>K (.bool false) H'
 | .exit id=>VRound L (some (.exit id)) H fun H'=>K (.bool false) H'
 | .goto t=>VRound L (some (.goto t)) H fun H'=>K (.bool false) H'
 |_=>False
def lM9 (C:Cx)(F:Fx)(w0:World)(M:List Nat)(l:Nat)(L:hT5)(body:Code)(K:Value->HP->Prop):cC9:=fun e env H=>
 match e with
 | .normal=>VBegin L H fun H'=>cP2 C F (some l) w0 M body (lJ7 L K) env H'
 |_=>False
theorem cM2 {l:Nat}{env0:Env}{d:Nat}{L:hT5}(hL:L=fun s pe=>.loop l s pe F.n env0 ps x y d){j:Option Code}{w:World}{H:HP}{K:Value->HP->Prop}{b:Bool}(hb:j.isNone=b)(hs:St w0 M H w)
  (h:VRound L j H fun H'=>K (.bool b) H'):∃v w',(Instr.endRound l j).run C.P w=.ok v w'/\∃v' H',(Ending.returned v)=.returned v'/\St w0 M H' w'/\K v' H':=by
 subst hL
 cases h with
 |@mk s pe u r hat hk=>
  have hp:=hs.perm hat.perm
  obtain ⟨fn,tmps,q1,q2,q3,hl⟩:=hp.own (.loop l s pe F.n env0 ps x y d) oU
  refine ⟨_,_,run_endRound j hl,.bool b,_,by rw [hb],?_,hk⟩
  refine hs.turn hat fun hx=>hx.putObj rfl rfl ?_
  refine ⟨fn,tmps,q1,q2,q3,?_⟩
  rw [World.putObj_heap_same (Qh.1 hl).1]
  cases j<;>simp
theorem VYield.go {l:Nat}{env0 env':Env}{d:Nat}{L:hT5}{args:List Value}{pe:Option Code}{u:Ent->HP}{r:HP}{K:Value->HP->Prop}(hL:L=fun s pe=>.loop l s pe F.n env0 ps x y d)
  (hx:bQ3 F x=true) (hy:bQ3 F y=true) (hat:At H (L .ready pe) u r) (hz:kM1 F.n ps.toList args env0=some env')
  (h:cP2 C F (some l) w0 M x (lM9 C F w0 M l L y K) ((1000000,.tuple #[])::env') H):VYield C.P w0 M H l args K:=by
 refine .mk fun w hs=>?_
 have hat':=hat
 rw [hL] at hat'
 obtain ⟨fn,tmps,q1,q2,q3,hl⟩:=hs.own _ hat'.mem
 obtain ⟨z1,z2,z3⟩:=gK3 ps.toList args env0 env' tmps q2 q1 q3 hz
 refine ⟨fn,_,x,y,run_yield hl (by simpa using z1),roundIn_of_wpIn trivial ?_⟩
 have hzip:(ps.zip args.toArray).foldl (fun tmps (t,a)=>tmps.setIfInBounds t a) tmps=(ps.toList.zip args).foldl (fun tmps (p:Nat×Value)=>tmps.setIfInBounds p.1 p.2) tmps:=by
  rw [<-Array.foldl_toList,Array.toList_zip]
 simp only [hzip]
 have hr:Rep F.n ((1000000,.tuple #[])::env') {tmps:=(ps.toList.zip args).foldl (fun tmps (p:Nat×Value)=>tmps.setIfInBounds p.1 p.2) tmps,defers:=[]}:=by
  refine ⟨z2,q2,fun v hv=>?_,fun t v ht=>?_⟩
  ·simp only [find] at hv
   have:Nat.beq 1000000 dk=true:=rfl
   simp only [this,qK] at hv
   subst hv;rfl
  ·obtain ⟨ht,hne⟩:=cV9 ht
   simp only [find] at ht
   cases hb:Nat.beq 1000000 t with
   |true=>exact absurd (qE hb).symm hne
   |false=>simp only [hb] at ht;exact z3 t v (cN8 ht hne)
 refine wpIn_mono (bK4 (rd:=some l) x _ _ H _ w hx hr hs h) fun e a' w' hq=>?_
 cases e with
 |normal=>
  obtain ⟨env1,H1,hr1,hs1,hq⟩:=hq
  cases hq with
  |@mk pe1 u1 r1 hat1 hk=>
   have hat1':=hat1
   rw [hL] at hat1'
   obtain ⟨fn1,tmps1,p1,p2,p3,hl1⟩:=hs1.own _ hat1'.mem
   refine ⟨_,run_beginRound hl1 rfl,?_⟩
   have hs2:St w0 M (u1 (L .busy pe1)) (w'.putObj l (.loop {state:=.busy,pending:=pe1,fn:=fn1,tmps:=tmps1,params:=ps,assign:=x,body:=y,defers:=d})):=by
    refine hs1.turn hat1 fun hx=>?_
    rw [hL] at hx ⊢
    exact hx.putObj rfl rfl ⟨fn1,tmps1,p1,p2,p3,World.putObj_heap_same (Qh.1 hl1).1⟩
   refine wpIn_mono (bK4 (rd:=some l) y _ env1 _ a' _ hy hr1 hs2 hk) fun e a'' w'' hq=>?_
   cases e with
   |normal=>obtain ⟨_,H2,_,hs3,hq⟩:=hq;exact cM2 hL rfl hs3 hq
   |ret=>obtain ⟨_,H2,_,hs3,hq⟩:=hq;exact cM2 hL rfl hs3 hq
   |exit id=>obtain ⟨_,H2,_,hs3,hq⟩:=hq;exact cM2 hL rfl hs3 hq
   |goto t=>obtain ⟨_,H2,_,hs3,hq⟩:=hq;exact cM2 hL rfl hs3 hq
   |panic _=>exact hq.elim
   |outgrown=>exact hq.elim
 |ret=>obtain ⟨_,_,_,_,hq⟩:=hq;exact hq.elim
 |exit _=>obtain ⟨_,_,_,_,hq⟩:=hq;exact hq.elim
 |goto _=>obtain ⟨_,_,_,_,hq⟩:=hq;exact hq.elim
 |panic _=>exact hq.elim
 |outgrown=>exact hq.elim
end
end Go.Vx
end
section
set_option linter.unusedSimpArgs false
set_option linter.unusedVariables false
namespace Go.Vx
open Go Go.RowKit
theorem cL0:∀(cs:List Value) (o:Nat) (vs:List Value),o+vs.length<=cs.length->upd cs o vs=some (cs.take o++vs++cs.drop (o+vs.length))
 |cs,0,[],h=>by cases cs<;>simp [upd]
 |[],0,_::_,h=>by simp at h
 |c::r,0,v::vs,h=>by
  simp only [qR] at h
  have:=cL0 r 0 vs qZ
  simp [upd,this]
 |[],o+1,vs,h=>by simp at h
 |c::r,o+1,vs,h=>by
  simp only [qR] at h
  have:=cL0 r o vs qZ
  simp [upd,this,Nat.add_right_comm]
theorem cJ0:∀(cs:List Value) (o s:Nat),o+s<=cs.length->sub cs o s=some ((cs.drop o).take s)
 |cs,0,0,h=>by cases cs<;>simp [sub]
 |[],0,s+1,h=>by simp at h
 |c::r,0,s+1,h=>by
  simp only [qR] at h
  have:=cJ0 r 0 s qZ
  simp [sub,this]
 |[],o+1,s,h=>by simp at h
 |c::r,o+1,s,h=>by
  simp only [qR] at h
  have:=cJ0 r o s qZ
  simp [sub,this]
section
variable {α : Type} {f : α -> List Value} {k : Nat} {l l' : List α} {i : Nat} {x y : α}
def bQ1 (f:α->List Value)(l:List α):List Value:=l.flatMap f
theorem bX9 (hk:∀x,(f x).length=k):(bQ1 f l).length=l.length*k:=by
 induction l with
 |nil=>simp [bQ1]
 |cons x r ih=>
  unfold bQ1 at*
  simp only [Qf,qw,ih,hk,qR,QD,Nat.one_mul]
  omega
theorem bQ7:bQ1 f (l++l')=bQ1 f l++bQ1 f l':=by simp [bQ1]
theorem cN6:bQ1 f []=[]:=rfl
theorem bV3 (n:Nat):bB1 (f x) n=bQ1 f (List.replicate n x):=by
 induction n with
 |zero=>rfl
 |succ n ih=>simp [bB1,ih,bQ1,List.replicate_succ]
theorem cR4 (h:l[i]? =some x):bQ1 f l=bQ1 f (l.take i)++(f x++bQ1 f (l.drop (i+1))):=by
 obtain ⟨hlt,rfl⟩:=qx.1 h
 conv=>lhs;rw [<-QJ i l,bQ7,qG hlt]
 simp only [bQ1,Qf]
theorem cJ3 (hk:∀x,(f x).length=k)(h:l[i]? =some x):(bQ1 f (l.take i)).length=i*k:=by
 obtain ⟨hlt,_⟩:=qx.1 h
 rw [bX9 hk,qh,Nat.min_eq_left (Nat.le_of_lt hlt)]
theorem bT7 {o s:Nat}{vs:List Value}(hk:∀x,(f x).length=k)(h:l[i]? =some x)(hs:sub (f x) o s=some vs):sub (bQ1 f l) (i*k+o) s=some vs:=by
 have h1:=bP2 _ _ _ _ hs
 have hlen:=cJ3 hk h
 have hle:o+s<=(f x).length:=by
  have key:∀(cs:List Value) (o s:Nat) (vs:List Value),sub cs o s=some vs->o+s<=cs.length:=by
   intro cs
   induction cs with
   |nil=>intro o s vs h;cases o<;>cases s<;>simp [sub] at h ⊢
   |cons c r ih=>
    intro o s vs h
    cases o with
    |zero=>
     cases s with
     |zero=>simp
     |succ s=>
      simp only [sub] at h
      cases h2:sub r 0 s with
      |none=>simp [h2] at h
      |some q=>have:=ih 0 s q h2;simp;omega
    |succ o=>simp only [sub] at h;have:=ih o s vs h;simp;omega
  exact key _ _ _ _ hs
 rw [cJ0 _ _ _ hle] at hs
 rw [cR4 h,cJ0 _ _ _ (by simp [hlen];omega)]
 rw [<-hs,<-hlen,List.drop_append,Qi qZ,Qc,QL,List.drop_append_of_le_length qZ,List.take_append_of_le_length (by simp;omega)]
theorem bQ8 {s:Nat}{vs:List Value}(hk:∀x,(f x).length=k)(h:l[i]? =some x)(hs:sub (f x) 0 s=some vs):sub (bQ1 f l) (i*k) s=some vs:=bT7 (o:=0) hk h hs
theorem dZ9 {o:Nat}{vs:List Value}(hk:∀x,(f x).length=k)(h:l[i]? =some x)(hu:upd (f x) o vs=some (f y)):upd (bQ1 f l) (i*k+o) vs=some (bQ1 f (l.set i y)):=by
 obtain ⟨h1,h2⟩:=cQ5 _ _ _ _ hu
 have hlen:=cJ3 hk h
 obtain ⟨hlt,_⟩:=qx.1 h
 have hset:(l.set i y)[i]? =some y:=by simp [hlt]
 have e1:(l.set i y).take i=l.take i:=by rw [List.take_set_of_le qZ]
 have e2:(l.set i y).drop (i+1)=l.drop (i+1):=by rw [List.drop_set_of_lt qZ]
 rw [cR4 h,cR4 hset,e1,e2,cL0 _ _ _ (by simp [hlen];omega),h2]
 congr 1
 rw [<-hlen,List.take_append,qe qZ,QL,List.take_append_of_le_length qZ,Nat.add_assoc,List.drop_append,Qi qZ,QL,List.drop_append_of_le_length qZ]
 simp
theorem bZ9 {vs:List Value}(hk:∀x,(f x).length=k)(h:l[i]? =some x)(hu:upd (f x) 0 vs=some (f y)):upd (bQ1 f l) (i*k) vs=some (bQ1 f (l.set i y)):=dZ9 (o:=0) hk h hu
theorem Cells.part {w:World}{b off:Nat}{xs vs:List Value}{o s:Nat}(h:Cells w b off xs)(hs:sub xs o s=some vs):Cells w b (off+o) vs:=by
 intro j v hj
 have:=(bP2 _ _ _ _ hs).2 j v hj
 have:=h _ _ this
 rwa [<-Nat.add_assoc] at this
structure Sl (w:World) (f:α->List Value) (k:Nat) (l:List α) (p:Option Addr) (n b off:Nat):Prop where
 base:p=some ⟨b,off,none⟩\/(n=0/\(p=none\/∃a,p=some a))
 len:l.length=n
 cells:Cells w b off (bQ1 f l)
theorem Sl.ptr {w:World}{p:Option Addr}{n b off:Nat}(h:Sl w f k l p n b off)(hn:0<n):p=some ⟨b,off,none⟩:=by
 rcases h.base with h1|⟨h1,_⟩
 ·exact h1
 ·omega
theorem Sl.rd {w0:World}{M:List Nat}{H:HP}{p:Option Addr}{n b off o s:Nat}{vs:List Value}(h:Sl w0 f k l p n b off)(hM:b∉M)(hk:∀x,(f x).length=k)(hi:l[i]? =some x)(hs:sub (f x) o s=some vs):
  Rd w0 M H b (off+(i*k+o)) s vs:=
 .old (h.cells.part (bT7 hk hi hs)) (bP2 _ _ _ _ hs).1 hM
theorem Sl.rd0 {w0:World}{M:List Nat}{H:HP}{p:Option Addr}{n b off s:Nat}{vs:List Value}(h:Sl w0 f k l p n b off)(hM:b∉M)(hk:∀x,(f x).length=k)(hi:l[i]? =some x)(hs:sub (f x) 0 s=some vs):
  Rd w0 M H b (off+i*k) s vs:=h.rd (o:=0) hM hk hi hs
theorem Cells.keep {w0 w:World}{M:List Nat}{H:HP}{b off:Nat}{vs:List Value}(h:Cells w0 b off vs)(hs:St w0 M H w)(hM:b∉M):Cells w b off vs:=by
 intro j v hj
 have h1:=h j v hj
 have:=hs.old b (block_lt_of_cell h1) hM
 rw [World.cell?_of_block (w:=w0) (w':=w) (a:=⟨b,off+j,none⟩) this]
 exact h1
theorem Sl.keep {w0 w:World}{M:List Nat}{H:HP}{p:Option Addr}{n b off:Nat}(h:Sl w0 f k l p n b off)(hs:St w0 M H w)(hM:b∉M):Sl w f k l p n b off:=
 ⟨h.base,h.len,h.cells.keep hs hM⟩
theorem Sl.own {w0 w:World}{M:List Nat}{H r:HP}{p:Option Addr}{n cap e:Nat}{u:Ent->HP}(hs:St w0 M H w)(hat:At H (.vec p n cap e k (bQ1 f l)) u r)(hk:∀x,(f x).length=k)(hl:l.length=n):∃b,Sl w f k l p n b 0:=by
 have h:=hs.own _ hat.mem
 cases p with
 |none=>
  obtain ⟨h1,h2⟩:=h
  rcases h2 with ⟨_,h2⟩|⟨g,c,cur,hv,_⟩
  ·have hn:n=0:=by simpa using h2
   subst hn
   have:l=[]:=qF hl
   subst this
   exact ⟨0,.inr ⟨rfl,.inl rfl⟩,rfl,fun j v hj=>by simp [bQ1] at hj⟩
  ·cases hv
 |some a=>
  obtain ⟨g,cur,hg,hh,_,_,_,ht,_⟩:=bW7 h
  subst hg
  refine ⟨g,.inl rfl,hl,fun j v hj=>?_⟩
  rw [<-ht,Qt] at hj
  split at hj
  ·simp only [Qo,World.cell?,hh];simpa using hj
  ·cases hj
theorem Sl.src {w0:World}{M:List Nat}{H:HP}{p:Option Addr}{n b off:Nat}(h:Sl w0 f k l p n b off)(hM:b∉M)(hk:∀x,(f x).length=k):Src w0 M H p n k (bQ1 f l):=by
 rcases h.base with h1|⟨h2,h1⟩
 ·rw [h1]
  exact .at_ (.old h.cells (by rw [bX9 hk,h.len]) hM)
 ·subst h2
  have:l=[]:=qF h.len
  subst this
  rcases h1 with rfl|⟨a,rfl⟩
  ·exact .empty
  ·exact .none0
theorem Sl.nil {w:World}{p:Option Addr}{b off:Nat}(hp:p=none\/∃a,p=some a):Sl w f k [] p 0 b off:=
 ⟨.inr ⟨rfl,hp⟩,rfl,fun j v hj=>by simp [bQ1] at hj⟩
theorem Sl.cases {w:World}{p:Option Addr}{n b off:Nat}(h:Sl w f k l p n b off):(∃a,p=some a)\/(p=none/\n=0):=by
 cases p with
 |none=>
  rcases h.base with h1|⟨h2,_⟩
  ·cases h1
  ·exact .inr ⟨rfl,h2⟩
 |some a=>exact .inl ⟨a,rfl⟩
theorem bZ5 (h:∀x,∀v∈f x,v.oneCell'=true):∀v∈bQ1 f l,v.oneCell'=true:=by
 intro v hv
 unfold bQ1 at hv
 obtain ⟨x,_,hx⟩:=QG.1 hv
 exact h x v hx
theorem Sl.get {w:World}{p:Option Addr}{n b off:Nat}(h:Sl w f k l p n b off){i:Nat}(hi:i<n):∃x,l[i]? =some x:=
 ⟨l[i]'(by rw [h.len];exact hi),by simp [h.len,hi]⟩
end
end Go.Vx
end
section
set_option linter.unusedVariables false
namespace Go.Vx
open Go Go.RowKit
theorem At.app {H:HP}{x:Ent}{u:Ent->HP}{r:HP}(A:HP)(h:At H x u r):At (A++H) x (fun y=>A++u y) (A++r):=by
 induction A with
 |nil=>exact h
 |cons a A ih=>exact .there ih
inductive AtS:HP->HP->(HP->HP)->Prop
 |here {S R:HP}:AtS (S++R) S (fun S'=>S'++R)
 |last {S:HP}:AtS S S (fun S'=>S')
 |there {H S:HP} {Z:HP->HP} {z:Ent} (h:AtS H S Z):AtS (z::H) S (fun S'=>z::Z S')
 |app {H S:HP} {Z:HP->HP} {A:HP} (h:AtS H S Z):AtS (A++H) S (fun S'=>A++Z S')
theorem AtS.perm {H S:HP}{Z:HP->HP}(h:AtS H S Z):H.Perm (S++Z []):=by
 induction h with
 |here=>exact .refl _
 |last=>simp
 |@there H S Z z _ ih=>exact (ih.cons z).trans (List.perm_middle.symm)
 |@app H S Z A _ ih=>
  refine (ih.append_left A).trans ?_
  rw [<-qJ,<-qJ]
  exact List.perm_append_comm.append_right _
theorem AtS.permZ {H S:HP}{Z:HP->HP}(h:AtS H S Z)(S':HP):(Z S').Perm (S'++Z []):=by
 induction h with
 |here=>exact .refl _
 |last=>simp
 |@there H S Z z _ ih=>exact (ih.cons z).trans (List.perm_middle.symm)
 |@app H S Z A _ ih=>
  refine (ih.append_left A).trans ?_
  rw [<-qJ,<-qJ]
  exact List.perm_append_comm.append_right _
theorem kD7 {H:HP}{x:Ent}(h:x∈H):∃u r,At H x u r:=by
 induction H with
 |nil=>simp at h
 |cons z H ih=>
  rcases qQ.1 h with rfl|h
  ·exact ⟨_,_,.here⟩
  ·obtain ⟨u,r,h⟩:=ih h;exact ⟨_,_,.there h⟩
theorem dP7 {A B C:HP}(hp:B.Perm (A++C)):HLe A B:=bN6 C hp
theorem HLe.last {H S:HP}{Z:HP->HP}(h:AtS H S Z):HLe S H:=dP7 h.perm
theorem HLe.seg {H S R:HP}{Z:HP->HP}(h:AtS H S Z)(hr:HLe R (Z [])):HLe (S++R) H:=(hr.left S).perm h.perm.symm
theorem At.run {α:Type}{l:List α}{f:α->Ent}{i:Nat}{x:α}(hx:l[i]? =some x)(R:HP):
  ∃u r,At (l.map f++R) (f x) u r/\(∀y,u (f y)=(l.set i y).map f++R)/\r=(l.eraseIdx i).map f++R:=by
 induction l generalizing i with
 |nil=>simp at hx
 |cons z l ih=>
  cases i with
  |zero=>
   simp only [QX,qK] at hx
   subst hx
   exact ⟨_,_,.here,fun y=>rfl,rfl⟩
  |succ i=>
   simp only [Qv] at hx
   obtain ⟨u,r,h1,h2,h3⟩:=ih hx
   exact ⟨_,_,.there h1,fun y=>by simp [h2],by simp [h3]⟩
theorem AtS.one {α:Type}{H:HP}{l:List α}{f:α->Ent}{Z:HP->HP}{i:Nat}{x:α}(h:AtS H (l.map f) Z)(hx:l[i]? =some x):
  ∃u r,At H (f x) u r/\(∀y,(u (f y))=Z ((l.set i y).map f))/\r=Z ((l.eraseIdx i).map f):=by
 obtain ⟨S,hS⟩:∃S,S=l.map f:=⟨_,rfl⟩
 rw [<-hS] at h
 induction h with
 |@here S R=>subst hS;exact At.run hx R
 |@last S=>
  subst hS
  have:=At.run (f:=f) hx []
  simpa using this
 |there _ ih=>obtain ⟨u,r,h1,h2,h3⟩:=ih hS;exact ⟨_,_,.there h1,fun y=>by simp [h2],by simp [h3]⟩
 |@app H S Z A _ ih=>obtain ⟨u,r,h1,h2,h3⟩:=ih hS;exact ⟨_,_,.app A h1,fun y=>by simp [h2],by simp [h3]⟩
theorem Rd.seg {α:Type}{w0:World}{M:List Nat}{H:HP}{l:List α}{f:α->Ent}{Z:HP->HP}{i:Nat}{x:α}{b off s n cap e size:Nat}{xs vs:List Value}(h:AtS H (l.map f) Z)(hx:l[i]? =some x)
  (hf:f x=.vec (some ⟨b,0,none⟩) n cap e size xs) (hs:sub xs off s=some vs):Rd w0 M H b off s vs:=by
 obtain ⟨u,r,h1,_,_⟩:=h.one hx
 rw [hf] at h1
 exact .vec h1 hs
theorem VSt.seg {α:Type}{H:HP}{l:List α}{f:α->Ent}{Z:HP->HP}{i:Nat}{x y:α}{b off n cap e size:Nat}{xs xs' vs:List Value}{k:HP->Prop}(h:AtS H (l.map f) Z)(hx:l[i]? =some x)
  (hf:f x=.vec (some ⟨b,0,none⟩) n cap e size xs) (hu:upd xs off vs=some xs') (hy:f y=.vec (some ⟨b,0,none⟩) n cap e size xs') (h1:bK6 vs=true) (hk:k (Z ((l.set i y).map f))):VSt H b off vs k:=by
 obtain ⟨u,r,hat,hz,_⟩:=h.one hx
 rw [hf] at hat
 rw [<-hz,hy] at hk
 exact .vec hat hu h1 hk
theorem VAp.seg {α:Type}{w0:World}{M:List Nat}{H:HP}{l:List α}{f:α->Ent}{Z:HP->HP}{i:Nat}{x:α}{p:Option Addr}{n cap e size bytes m:Nat}{q:Option Addr}{xs news:List Value}{K:Value->HP->Prop}(h:AtS H (l.map f) Z)(hx:l[i]? =some x)
  (hf:f x=.vec p n cap e size xs) (hs:Src w0 M H q m size news) (h1:∀v∈news,v.oneCell'=true) (hb:(n+m)*bytes<=140737488355328) (h63:n+m<=maxLen)
  (hk:∀p' cap',(0<n+m->∃b,p'=some ⟨b,0,none⟩)->K (.slice p' (n+m) cap') (.vec p' (n+m) cap' e size (xs++news)::Z ((l.eraseIdx i).map f))):VAp w0 M H p n cap e size bytes q m K:=by
 obtain ⟨u,r,hat,_,hr⟩:=h.one hx
 rw [hf] at hat
 subst hr
 exact .own hat hs h1 hb h63 hk
theorem VCl.seg {α:Type}{H:HP}{l:List α}{f:α->Ent}{Z:HP->HP}{i:Nat}{x y:α}{p:Option Addr}{n cap e size:Nat}{xs zs:List Value}{K:Value->HP->Prop}(h:AtS H (l.map f) Z)(hx:l[i]? =some x)
  (hf:f x=.vec p n cap e size xs) (hy:f y=.vec p n cap e size (bB1 zs n)) (hk:K (.tuple #[]) (Z ((l.set i y).map f))):VCl H p n cap e size zs K:=by
 obtain ⟨u,r,hat,hz,_⟩:=h.one hx
 rw [hf] at hat
 rw [<-hz,hy] at hk
 exact .own hat hk
theorem St.part {w0 w:World}{M:List Nat}{H S:HP}{Z:HP->HP}(hs:St w0 M H w)(h:AtS H S Z):St w (ids S) S w:=by
 have hp:=hs.perm h.perm
 refine ⟨rfl,rfl,rfl,qA _,fun _ _ _=>rfl,fun x hx=>hp.own x (QW _ hx),fun b hb=>.inl hb,?_⟩
 have:=hp.nodup
 rw [ids,List.filterMap_append] at this
 exact (Qe.1 this).1
theorem St.back {w0 w w':World}{M:List Nat}{H S S':HP}{Z:HP->HP}(hs:St w0 M H w)(h:AtS H S Z)(h1:St w (ids S) S' w'):St w0 M (Z S') w':=by
 have hp:=hs.perm h.perm
 have hn:=hp.nodup
 rw [ids,List.filterMap_append] at hn
 refine (hp.call (H2:=Z []) h1 (dP7 (C:=S) List.perm_append_comm) (fun b hb=>hp.from_ b (by rw [ids,List.filterMap_append];exact QW _ hb)) (fun b hb hb'=>?_)).perm (h.permZ S').symm
 exact (Qe.1 hn).2.2 b hb' b hb rfl
theorem bQ2 {P:Program}{w0:World}{M:List Nat}{H:HP}{f:Nat}{args:List Value}{α:Type}{v:α->Value}{p:α->Prop}{G:α->HP}{K:Value->HP->Prop}
  (hc:∀w,St w0 M H w->Calls P f args.toArray w fun e w'=>∃x:α,e=.returned (v x)/\p x/\St w [] (G x) w') (hk:∀x,p x->K (v x) (G x++H)):VCall P w0 M H f args K:=
 .mk fun w hw=>(hc w hw).mono fun e w' ⟨x,he,hb,h'⟩=>⟨v x,G x++H,he,hw.call_fresh h',hk x hb⟩
theorem bQ4 {P:Program}{w0:World}{M:List Nat}{H:HP}{f:Nat}{args:List Value}{v:Value}{K:Value->HP->Prop}
  (hc:∀w,St w0 M H w->Calls P f args.toArray w fun e w'=>e=.returned v/\St w [] [] w') (hk:K v H):VCall P w0 M H f args K:=
 .mk fun w hw=>(hc w hw).mono fun e w' ⟨he,h'⟩=>⟨v,H,he,hw.call_fresh h',hk⟩
theorem VLd.is {w0:World}{M:List Nat}{H:HP}{b off s:Nat}{k:List Value->Prop}(hh:VLd w0 M H b off s k):VLd w0 M H b off s k:=hh
theorem VLk.is {m:List (Int×Value)}{j:Int}{k:Option Value->Prop}(hh:VLk m j k):VLk m j k:=hh
theorem VMp.is {w0:World}{M:List Nat}{H:HP}{b:Nat}{k:List (Int×Value)->Prop}(hh:VMp w0 M H b k):VMp w0 M H b k:=hh
theorem VNew.is {k:Nat->Prop}(hh:VNew k):VNew k:=hh
theorem VMk.is {bytes:Nat}{l c:Int}{k:Nat->Prop}(hh:VMk bytes l c k):VMk bytes l c k:=hh
theorem VSt.is {H:HP}{b off:Nat}{vs:List Value}{k:HP->Prop}(hh:VSt H b off vs k):VSt H b off vs k:=hh
theorem VMpU.is {H:HP}{b:Nat}{k:List (Int×Value)->(Ent->HP)->Prop}(hh:VMpU H b k):VMpU H b k:=hh
theorem VAp.is {w0:World}{M:List Nat}{H:HP}{p:Option Addr}{n cap e size bytes:Nat}{q:Option Addr}{m:Nat}{K:Value->HP->Prop}(hh:VAp w0 M H p n cap e size bytes q m K):VAp w0 M H p n cap e size bytes q m K:=hh
theorem VApZ.is {H:HP}{p:Option Addr}{n cap e size bytes:Nat}{zs:List Value}{j:Int}{K:Value->HP->Prop}(hh:VApZ H p n cap e size bytes zs j K):VApZ H p n cap e size bytes zs j K:=hh
theorem VCp.is {w0:World}{M:List Nat}{H:HP}{p:Option Addr}{n cap e size:Nat}{q:Option Addr}{m:Nat}{K:Value->HP->Prop}(hh:VCp w0 M H p n cap e size q m K):VCp w0 M H p n cap e size q m K:=hh
theorem VCl.is {H:HP}{p:Option Addr}{n cap e size:Nat}{zs:List Value}{K:Value->HP->Prop}(hh:VCl H p n cap e size zs K):VCl H p n cap e size zs K:=hh
theorem VCall.is {P:Program}{w0:World}{M:List Nat}{H:HP}{f:Nat}{args:List Value}{K:Value->HP->Prop}(hh:VCall P w0 M H f args K):VCall P w0 M H f args K:=hh
theorem bQ0 {P:Program}{w0:World}{M:List Nat}{H:HP}(f:Nat){args:List Value}{K:Value->HP->Prop}(hh:VCall P w0 M H f args K):VCall P w0 M H f args K:=hh
theorem VYield.is {P:Program}{w0:World}{M:List Nat}{H:HP}{l:Nat}{args:List Value}{K:Value->HP->Prop}(hh:VYield P w0 M H l args K):VYield P w0 M H l args K:=hh
theorem VEl.is {cs:List Value}{n size:Nat}{j:Int}{g:Bool}{k:Value->Prop}(hh:VEl cs n size j g k):VEl cs n size j g k:=hh
theorem VRgM.is {H:HP}{b:Nat}{k:Nat->HP->Prop}(hh:VRgM H b k):VRgM H b k:=hh
theorem VNxM.is {H:HP}{it:Nat}{K:Value->HP->Prop}(hh:VNxM H it K):VNxM H it K:=hh
theorem VEn.is {H:HP}{it:Nat}{k:Value->Prop}(hh:VEn H it k):VEn H it k:=hh
theorem VLkK.is {P:Program}{kt:TypeId}{H:HP}{b:Nat}{x:Value}{k:Option Value->Prop}(hh:VLkK P kt H b x k):VLkK P kt H b x k:=hh
theorem VSl3.is {p:Option Addr}{size:Nat}{l h m c:Int}{k:Option Addr->Nat->Nat->Prop}(hh:VSl3 p size l h m c k):VSl3 p size l h m c k:=hh
theorem VDlK.is {P:Program}{kt:TypeId}{H:HP}{b:Nat}{x:Value}{k:HP->Prop}(hh:VDlK P kt H b x k):VDlK P kt H b x k:=hh
theorem VLnK.is {H:HP}{b:Nat}{k:Nat->Prop}(hh:VLnK H b k):VLnK H b k:=hh
theorem VMpE.is {P:Program}{kt:TypeId}{z:Value}{H:HP}{b:Nat}{x:Value}{K:Value->HP->Prop}(hh:VMpE P kt z H b x K):VMpE P kt z H b x K:=hh
theorem VEnS.is {H:HP}{b:Nat}{st:Int}{v:Value}{k:HP->Prop}(hh:VEnS H b st v k):VEnS H b st v k:=hh
theorem VUpK.is {P:Program}{kt:TypeId}{H:HP}{b:Nat}{x v:Value}{k:HP->Prop}(hh:VUpK P kt H b x v k):VUpK P kt H b x v k:=hh
theorem VBs.is {P:Program}{w0:World}{M:List Nat}{H:HP}{d:TypeId}{p:Option Addr}{n:Nat}{k:Value->Prop}(hh:VBs P w0 M H d p n k):VBs P w0 M H d p n k:=hh
theorem VIx.is {p:Option Addr}{n size:Nat}{j:Int}{k:Value->Prop}(hh:VIx p n size j k):VIx p n size j k:=hh
theorem VB.is {p:Prop}{k:Bool->Prop}(hh:VB p k):VB p k:=hh
theorem VAr.is {kd:IntKind}{z:Int}{k:Int->Prop}(hh:VAr kd z k):VAr kd z k:=hh
theorem VQ.is {kd:IntKind}{a b:Int}{k:Int->Prop}(hh:VQ kd a b k):VQ kd a b k:=hh
theorem VM.is {a b:Int}{k:Int->Prop}(hh:VM a b k):VM a b k:=hh
theorem VSl.is {p:Option Addr}{size:Nat}{l h c:Int}{k:Option Addr->Nat->Nat->Prop}(hh:VSl p size l h c k):VSl p size l h c k:=hh
theorem VHs.is {H:HP}{k:HP->Prop}(hh:VHs H k):VHs H k:=hh
theorem VKeep.is {Hs H:HP}{q:Prop}(hh:VKeep Hs H q):VKeep Hs H q:=hh
theorem VSeq.is {at_:Nat}{H:HP}{A:(Env->HP->Prop)->Prop}{B:Env->HP->Prop}(hh:VSeq at_ H A B):VSeq at_ H A B:=hh
theorem VLoop.is {B:cC9->Env->HP->Prop}{Q:cC9}{env:Env}{H:HP}(hh:VLoop B Q env H):VLoop B Q env H:=hh
theorem VRange.is {C:Cx}{F:Fx}{rd:Option Nat}{w0:World}{M:List Nat}{g:Operand}{ps:Array Tmp}{assign body:Code}{ok:Bool}{Q:cC9}{env:Env}{H:HP}(hh:VRange C F rd w0 M g ps assign body ok Q env H):VRange C F rd w0 M g ps assign body ok Q env H:=hh
theorem VBegin.is {L:hT5}{H:HP}{k:HP->Prop}(hh:VBegin L H k):VBegin L H k:=hh
theorem VRound.is {L:hT5}{j:Option Code}{H:HP}{k:HP->Prop}(hh:VRound L j H k):VRound L j H k:=hh
theorem VEnd.is {L:hT5}{H:HP}{k:Option Code->HP->Prop}(hh:VEnd L H k):VEnd L H k:=hh
theorem VUn.is {H:HP}{b:Nat}{k:HP->Prop}(hh:VUn H b k):VUn H b k:=hh
theorem VRet.is {w0:World}{M:List Nat}{R:Ending->World->Prop}{H:HP}{v:Value}(hh:VRet w0 M R H v):VRet w0 M R H v:=hh
end Go.Vx
end
section
namespace Go.Vx
open Go Go.RowKit
theorem aT0 {x:Ent}{H:HP}:At (x::H) x (fun y=>y::H) H:=.here
theorem aT1 {x z:Ent}{H:HP}{u:Ent->HP}{r:HP}(h:At H x u r):At (z::H) x (fun y=>z::u y) (z::r):=.there h
theorem aT2 {H:HP}{x:Ent}{u:Ent->HP}{r:HP}(A:HP)(h:At H x u r):At (A++H) x (fun y=>A++u y) (A++r):=At.app A h
theorem aT3 {H:HP}{x:Ent}{u:Ent->HP}{r:HP}(A:HP)(h:At H x u r):At (List.append A H) x (fun y=>List.append A (u y)) (List.append A r):=At.app A h
theorem sT0 {S R:HP}:AtS (S++R) S (fun S'=>S'++R):=.here
theorem sT1 {S R:HP}:AtS (List.append S R) S (fun S'=>List.append S' R):=.here
theorem sT2 {S:HP}:AtS S S (fun S'=>S'):=.last
theorem sT3 {H S:HP}{Z:HP->HP}{z:Ent}(h:AtS H S Z):AtS (z::H) S (fun S'=>z::Z S'):=.there h
theorem sT4 {H S:HP}{Z:HP->HP}{A:HP}(h:AtS H S Z):AtS (A++H) S (fun S'=>A++Z S'):=.app h
theorem sT5 {H S:HP}{Z:HP->HP}{A:HP}(h:AtS H S Z):AtS (List.append A H) S (fun S'=>List.append A (Z S')):=.app h
theorem bX5 {p:Prop}{k:Bool->Prop}(h:p)(hk:p->k true):VB p k:=.split hk fun hn=>absurd h hn
theorem bZ2 {p:Prop}{k:Bool->Prop}(h:¬p)(hk:¬p->k false):VB p k:=.split (fun hp=>absurd hp h) hk
theorem aT {H:HP}{x:Ent}{u:Ent->HP}{r:HP}(h:At H x u r:=by (repeat (first|exact Go.Vx.aT0|apply Go.Vx.aT1|with_reducible apply Go.Vx.aT2|with_reducible apply Go.Vx.aT3));first|done|fail):At H x u r:=h
theorem aS {H S:HP}{Z:HP->HP}(h:AtS H S Z:=by (repeat (first|with_reducible exact Go.Vx.sT0|with_reducible exact Go.Vx.sT1|exact Go.Vx.sT2|apply Go.Vx.sT3|with_reducible apply Go.Vx.sT4|with_reducible apply Go.Vx.sT5));first|done|fail):AtS H S Z:=h
theorem aH {H' H:HP}(h:HLe H' H:=by (repeat (first|exact Go.Vx.HLe.nil|exact Go.Vx.HLe.refl _|refine Go.Vx.HLe.nilv ?_|(with_reducible apply Go.Vx.HLe.seg;(focus (exact Go.Vx.aS)))|(apply Go.Vx.HLe.cons;(focus (exact Go.Vx.aT)))|(apply Go.Vx.HLe.seg;(focus (exact Go.Vx.aS)))|(apply Go.Vx.HLe.last;exact Go.Vx.aS)));first|done|fail):HLe H' H:=h
theorem aE {E env:Env}(h:EnvLe E env:=by (repeat (first|exact trivial|refine ⟨rfl,?_⟩));first|done|fail):EnvLe E env:=h
end Go.Vx
end
section
set_option linter.unusedVariables false
namespace Go.Vx
open Go Go.RowKit
def kX7:List Nat->Env->Option Env
 |[],_=>some []
 |t::r,env=>
  match find env t with
  |some v=>
   match kX7 r env with
   |some K=>some ((t,v)::K)
   |none=>none
  |none=>none
def mY6:HP->Nat->Option Ent
 |[],_=>none
 |x::_,0=>some x
 |_::r,n+1=>mY6 r n
def mY5:List Nat->HP->Option HP
 |[],_=>some []
 |j::r,H=>
  match mY6 H j with
  |some x=>
   match mY5 r H with
   |some K=>some (x::K)
   |none=>none
  |none=>none
theorem dK4 {α:Type}{B:cC9->Env->HP->Prop}{Q:cC9}{env K:Env}{H R:HP}(ks js:List Nat)(hK:kX7 ks env=some K)(hR:mY5 js H=some R)
  (I:α->Prop) (E:α->Env->Env) (G:α->HP->HP) (μ:α->Nat) (x0:α) (hI:I x0) (hE:EnvLe (E x0 K) env) (hG:HLe (G x0 R) H)
  (round:∀x,I x->B (fY9 I (fun x=>E x K) (fun x=>G x R) μ x Q) (E x K) (G x R)):VLoop B Q env H:=
 .mk I (fun x=>E x K) (fun x=>G x R) μ x0 hI hE hG round
theorem bF2 {α:Type}{B:cC9->Env->HP->Prop}{Q:cC9}{env K:Env}{H:HP}(ks:List Nat)(hK:kX7 ks env=some K)
  (I:α->Prop) (E:α->Env->Env) (G:α->HP) (μ:α->Nat) (x0:α) (hI:I x0) (hE:EnvLe (E x0 K) env) (hG:HLe (G x0) H)
  (round:∀x,I x->B (fY9 I (fun x=>E x K) G μ x Q) (E x K) (G x)):VLoop B Q env H:=
 .mk I (fun x=>E x K) G μ x0 hI hE hG round
theorem hC3 {α:Type}{B:cC9->Env->HP->Prop}{Q:cC9}{env K:Env}{H:HP}(ks:List Nat)(hK:kX7 ks env=some K)
  (I:α->Prop) (E:α->Env->Env) (G:α->HP) (μ:α->Nat) (x0:α) (J:α->Prop) (hJ:∀x,I x->∀w,(∀y∈G x,y.sat w)->J x) (hI:I x0) (hE:EnvLe (E x0 K) env) (hG:HLe (G x0) H)
  (round:∀x,I x->J x->B (fY9 I (fun x=>E x K) G μ x Q) (E x K) (G x)):VLoop B Q env H:=
 .mkL I (fun x=>E x K) G μ x0 J hJ hI hE hG round
theorem St.apartS {w0 w:World}{M:List Nat}{H S:HP}{Z:HP->HP}(hs:St w0 M H w)(h:AtS H S Z){x:Ent}(hx:x∈Z []){b:Nat}(hb:x.id=some b):b∉ids S:=by
 have hn:=(hs.perm h.perm).nodup
 rw [ids,List.filterMap_append] at hn
 exact fun hin=>(Qe.1 hn).2.2 b hin b (List.mem_filterMap.2 ⟨x,hx,hb⟩) rfl
theorem bZ1 {α:Type}{f:α->List Value}{k:Nat}{l:List α}{w0 w:World}{M:List Nat}{H:HP}{g n cap e:Nat}(hs:St w0 M H w)(hx:Ent.vec (some ⟨g,0,none⟩) n cap e k (bQ1 f l)∈H)(hk:∀x,(f x).length=k)(hl:l.length=n):
  Sl w f k l (some ⟨g,0,none⟩) n g 0:=by
 obtain ⟨u,r,hat⟩:=kD7 hx
 obtain ⟨b,h⟩:=Sl.own hs hat hk hl
 have h2:=hs.own _ hx
 obtain ⟨g',cur,hg,hh,_,_,_,ht,_⟩:=bW7 h2
 cases hg
 refine ⟨.inl rfl,hl,fun j v hj=>?_⟩
 rw [<-ht,Qt] at hj
 split at hj
 ·simp only [Qo,World.cell?,hh];simpa using hj
 ·cases hj
theorem fW4 {w0 w:World}{M:List Nat}{H:HP}{p:Option Addr}{n cap e size:Nat}{xs:List Value}(hs:St w0 M H w)(hx:Ent.vec p n cap e size xs∈H):(∃g,p=some ⟨g,0,none⟩)\/(p=none/\n=0/\cap=0):=by
 have h:=hs.own _ hx
 cases p with
 |none=>
  right
  obtain ⟨h1,h2⟩:=h
  rcases h2 with ⟨h3,h2⟩|⟨g,c,cur,hv,_⟩
  ·simp only [Value.slice.injEq] at h3;exact ⟨rfl,h3.2.1,h3.2.2⟩
  ·cases hv
 |some a=>left;obtain ⟨g,cur,hg,_⟩:=bW7 h;exact ⟨g,by rw [hg]⟩
theorem bB9 {w:World}{p:Option Addr}{n cap e size:Nat}{xs:List Value}(h:(Ent.vec p n cap e size xs).sat w):n<=cap/\(0<n->∃g,p=some ⟨g,0,none⟩)/\((∃g,p=some ⟨g,0,none⟩)\/(p=none/\n=0/\cap=0)):=by
 cases p with
 |none=>
  obtain ⟨h1,h2⟩:=h
  rcases h2 with ⟨h3,h2⟩|⟨g,c,cur,hv,_⟩
  ·simp only [Value.slice.injEq] at h3
   exact ⟨by omega,by omega,.inr ⟨rfl,h3.2.1,h3.2.2⟩⟩
  ·cases hv
 |some a=>
  obtain ⟨g,cur,hg,_,hn,_⟩:=bW7 h
  exact ⟨hn,fun _=>⟨g,by rw [hg]⟩,.inl ⟨g,by rw [hg]⟩⟩
theorem gJ7 {P:Program}{w0:World}{M:List Nat}{H r:HP}{f:Nat}{args:List Value}{α:Type}{v:α->Value}{p:α->Prop}{G:α->HP}{K:Value->HP->Prop}{b e:Nat}{cs:List Value}{u:Ent->HP}
  (hat:At H (.row b e cs) u r)
  (hc:∀w,St w0 M H w->St w [b] [.row b e cs] w->Calls P f args.toArray w fun e w'=>∃x:α,e=.returned (v x)/\p x/\St w [b] (G x) w') (hk:∀x,p x->K (v x) (G x++r)):VCall P w0 M H f args K:=
 .mk fun w hw=>(hc w hw (cC7 (hw.own _ hat.mem))).mono fun e w' ⟨x,he,hb,h'⟩=>⟨v x,G x++r,he,hw.call_at hat rfl h',hk x hb⟩
theorem VSt.cast {H:HP}{b off off':Nat}{vs:List Value}{k:HP->Prop}(he:off=off')(h:VSt H b off' vs k):VSt H b off vs k:=he▸h
theorem kP7 {w0 w:World}{M:List Nat}{H:HP}(hs:St w0 M H w){b:Nat}(hb:b∈ids H):b<w.heap.size:=by
 obtain ⟨x,hx,hxb⟩:=List.mem_filterMap.1 hb
 exact Ent.lt (hs.own x hx) b hxb
theorem bF6 {α:Type}{f:α->List Value}{k:Nat}{l:List α}{w0 w:World}{M:List Nat}{H S:HP}{p:Option Addr}{n cap e:Nat}(hs:St w0 M H w)(hl:HLe (.vec p n cap e k (bQ1 f l)::S) H)(hk:∀x,(f x).length=k)(hn:l.length=n):
  ∃b,Sl w f k l p n b 0/\b∉ids S:=by
 have h:=hs.le hl
 rcases fW4 h (qg ..) with ⟨g,rfl⟩|⟨rfl,rfl,rfl⟩
 ·exact ⟨g,bZ1 h (qg ..) hk hn,h.apart rfl⟩
 ·have:l=[]:=qF hn
  subst this
  exact ⟨w.heap.size,.nil (.inl rfl),fun hb=>Nat.lt_irrefl _ (kP7 h.tail hb)⟩
theorem Sl.oldOut {α:Type}{f:α->List Value}{k:Nat}{l:List α}{w0 w:World}{M:List Nat}{H S:HP}{p:Option Addr}{n b off:Nat}(h:Sl w0 f k l p n b off)(hM:b∉M)(hs:St w0 M H w)(hl:HLe S H)(hk:∀x,(f x).length=k)(hk0:0<k):
  ∃b' off',Sl w f k l p n b' off'/\b'∉ids S:=by
 have h':=h.keep hs hM
 by_cases hn:n=0
 ·have:l=[]:=qF (h.len.trans hn)
  subst this
  have hp:p=none\/∃a,p=some a:=by cases p<;>simp
  subst hn
  exact ⟨w.heap.size,0,.nil hp,fun hb=>Nat.lt_irrefl _ (kP7 (hs.le hl) hb)⟩
 ·refine ⟨b,off,h',fun hb=>?_⟩
  have hl0:0<(bQ1 f l).length:=by rw [bX9 hk,h.len];exact Nat.mul_pos qZ hk0
  have hc:=h.cells 0 ((bQ1 f l)[0]) oU
  have hlt:b<w0.heap.size:=block_lt_of_cell hc
  rcases (hs.le hl).from_ b hb with h2|h2
  ·exact hM h2
  ·omega
theorem cZ9 {P:Program}{w0:World}{M:List Nat}{H S:HP}{Z:HP->HP}{f:Nat}{args:List Value}{α:Type}(v:α->Value)(p:α->Prop)(G V:α->HP){K:Value->HP->Prop}
  (hat:AtS H S Z) (hc:∀w,St w0 M H w->St w (ids S) S w->Calls P f args.toArray w fun e w'=>∃x:α,e=.returned (v x)/\p x/\St w (ids S) (G x++V x) w') (hk:∀x,p x->K (v x) (V x++Z (G x))):VCall P w0 M H f args K:=
 .mk fun w hw=>(hc w hw (hw.part hat)).mono fun e w' ⟨x,he,hb,h'⟩=>⟨v x,V x++Z (G x),he,(hw.back hat h').perm (by
  refine (hat.permZ _).trans ?_
  refine List.Perm.trans ?_ ((hat.permZ (G x)).append_left (V x)).symm
  rw [<-qJ]
  exact List.perm_append_comm.append_right _),hk x hb⟩
theorem HLe.shr {α:Type}{f:α->List Value}{k:Nat}{l:List α}{p:Option Addr}{n m cap e:Nat}{H' H r:HP}{u:Ent->HP}(h:At H (.vec p n cap e k (bQ1 f l)) u r)(hk:∀x,(f x).length=k)(hl:l.length=n)(hm:m<=n)(hr:HLe H' r):
  HLe (.vec p m cap e k (bQ1 f (l.take m))::H') H:=by
 refine HLe.weak h hr (fun w hs=>?_) rfl
 cases p with
 |none=>
  obtain ⟨h1,h2⟩:=hs
  rcases h2 with ⟨h3,h4⟩|⟨g,c,cur,hv,_⟩
  ·simp only [Value.slice.injEq] at h3
   have:m=0:=by omega
   subst this
   have hc:cap=0:=h3.2.2
   subst hc
   simp only [QU]
   exact World.ownsRow_nil _ _ _ _
  ·cases hv
 |some a=>
  obtain ⟨g,cur,hg,hh,hn,hc,hsz,ht,hlen⟩:=bW7 hs
  subst hg
  have hmk:m*k<=n*k:=Qj _ hm
  have e1:bQ1 f (l.take m)=(bQ1 f l).take (m*k):=by
   have h1:bQ1 f l=bQ1 f (l.take m)++bQ1 f (l.drop m):=by rw [<-bQ7,QJ]
   have h2:(bQ1 f (l.take m)).length=m*k:=by rw [bX9 hk,qh,Nat.min_eq_left qZ]
   rw [h1,List.take_left' h2]
  refine bV8 hh qZ hc hsz ?_
  rw [e1,<-ht,List.take_take,Nat.min_eq_left hmk]
theorem VMp.seg {α:Type}{w0:World}{M:List Nat}{H:HP}{l:List α}{f:α->Ent}{Z:HP->HP}{i:Nat}{x:α}{b:Nat}{m:List (Int×Value)}{k:List (Int×Value)->Prop}(h:AtS H (l.map f) Z)(hx:l[i]? =some x)(hf:f x=.map b m)(hk:k m):VMp w0 M H b k:=by
 obtain ⟨u,r,hat,_,_⟩:=h.one hx
 rw [hf] at hat
 exact .mk hat hk
theorem VMpU.seg {α:Type}{H:HP}{l:List α}{f:α->Ent}{Z:HP->HP}{i:Nat}{x:α}{b:Nat}{m:List (Int×Value)}{k:List (Int×Value)->(Ent->HP)->Prop}(h:AtS H (l.map f) Z)(hx:l[i]? =some x)(hf:f x=.map b m)
  (hk:∀u:Ent->HP,(∀y,u (f y)=Z ((l.set i y).map f))->k m u):VMpU H b k:=by
 obtain ⟨u,r,hat,hu,_⟩:=h.one hx
 rw [hf] at hat
 exact .mk hat (hk u hu)
inductive Take:HP->HP->HP->Prop
 |nil {H:HP}:Take H [] H
 |cons {H S r R:HP} {x:Ent} {u:Ent->HP} (hat:At H x u r) (h:Take r S R):Take H (x::S) R
 |seg {H S S1 R:HP} {Z:HP->HP} (hat:AtS H S1 Z) (h:Take (Z []) S R):Take H (S1++S) R
 |last {H S1:HP} {Z:HP->HP} (hat:AtS H S1 Z):Take H S1 (Z [])
theorem Take.perm {H S R:HP}(h:Take H S R):H.Perm (S++R):=by
 induction h with
 |nil=>simp
 |cons hat _ ih=>exact hat.perm.trans (ih.cons _)
 |seg hat _ ih=>rw [qJ];exact hat.perm.trans (ih.append_left _)
 |last hat=>exact hat.perm
theorem cP6 {P:Program}{w0:World}{M:List Nat}{H S R:HP}{f:Nat}{args:List Value}{α:Type}(v:α->Value)(p:α->Prop)(G:α->HP){K:Value->HP->Prop}
  (htk:Take H S R) (hc:∀w,St w0 M H w->St w (ids S) S w->Calls P f args.toArray w fun e w'=>∃x:α,e=.returned (v x)/\p x/\St w (ids S) (G x) w') (hk:∀x,p x->K (v x) (G x++R)):VCall P w0 M H f args K:=by
 refine .mk fun w hw=>?_
 have hat:AtS (S++R) S (fun S'=>S'++R):=.here
 have hw':=hw.perm htk.perm
 exact (hc w hw (hw'.part hat)).mono fun e w' ⟨x,he,hb,h'⟩=>⟨v x,G x++R,he,hw'.back (S:=S) (Z:=fun S'=>S'++R) hat h',hk x hb⟩
def adv (k:Nat)(x:Option Addr×Nat):Option Addr×Nat:=(if 1<x.2 then x.1.map (·.add k) else x.1,x.2 - 1)
def advs (k:Nat):Nat->Option Addr×Nat->Option Addr×Nat
 |0,x=>x
 |j+1,x=>advs k j (adv k x)
theorem cY0 (k j:Nat)(x:Option Addr×Nat):advs k (j+1) x=adv k (advs k j x):=by
 induction j generalizing x with
 |zero=>rfl
 |succ j ih=>exact ih (adv k x)
theorem kH6 (k a b:Nat)(x:Option Addr×Nat):advs k (a+b) x=advs k b (advs k a x):=by
 induction b with
 |zero=>rfl
 |succ b ih=>rw [<-Nat.add_assoc,cY0,cY0,ih]
theorem fK2 (k j:Nat)(x:Option Addr×Nat):(advs k j x).2=x.2 - j:=by
 induction j with
 |zero=>rfl
 |succ j ih=>rw [cY0];simp only [adv,ih];omega
theorem Sl.adv1 {α:Type}{f:α->List Value}{k:Nat}{w:World}{l:List α}{p:Option Addr}{c b off:Nat}(h:Sl w f k l p l.length b off)(hk:∀x,(f x).length=k)(hc:l.length<=c)(hl:0<l.length):
  ∃off',Sl w f k (l.drop 1) (adv k (p,c)).1 (l.drop 1).length b off':=by
 have hp:=h.ptr hl
 subst hp
 unfold adv
 dsimp only
 split
 ·refine ⟨off+k,.inl ?_,rfl,?_⟩
  ·simp [Addr.add]
  ·have h2:=h.cells
   match l,hl with
   |x::r,_=>
    simp only [bQ1,Qf,List.drop_succ_cons,List.drop_zero] at h2 ⊢
    intro j v hj
    have:=h2 (k+j) v (by rw [Qr (by rw [hk];omega),hk,QL];exact hj)
    rwa [<-Nat.add_assoc] at this
 ·refine ⟨off,.inl rfl,rfl,?_⟩
  have:l.drop 1=[]:=Qi qZ
  rw [this]
  intro j v hj
  simp [bQ1] at hj
theorem Sl.advs {α:Type}{f:α->List Value}{k:Nat}{w:World}{l:List α}{p:Option Addr}{c b off:Nat}(h:Sl w f k l p l.length b off)(hk:∀x,(f x).length=k)(hc:l.length<=c)(j:Nat)(hj:j<=l.length):
  ∃off',Sl w f k (l.drop j) (Vx.advs k j (p,c)).1 (l.drop j).length b off':=by
 induction j with
 |zero=>exact ⟨off,by simpa [Vx.advs] using h⟩
 |succ j ih=>
  obtain ⟨off',h'⟩:=ih qZ
  have:=Sl.adv1 (c:=c - j) h' hk (by simp;omega) (by simp;omega)
  rw [List.drop_drop] at this
  rw [cY0]
  have e:Vx.advs k j (p,c)=((Vx.advs k j (p,c)).1,c - j):=by rw [<-fK2 k j (p,c)]
  rw [e]
  exact this
theorem cG9 {p:Option Addr}{size m cap:Nat}{k:Option Addr->Nat->Nat->Prop}(hm:m<=cap)(hk:k p m cap):VSl p size 0 (m:Int) (cap:Int) k:=by
 refine .mk qZ qZ qZ fun q h1 h2=>?_
 have e1:(m:Int).toNat - (0:Int).toNat=m:=by omega
 have e2:(cap:Int).toNat - (0:Int).toNat=cap:=by omega
 rw [e1,e2]
 have:q=p:=by
  by_cases hc:cap=0
  ·exact h2 qZ
  ·rw [h1 qZ]
   cases p<;>simp [Addr.add]
 rw [this]
 exact hk
theorem VSl.adv1 {p:Option Addr}{size n c:Nat}{k:Option Addr->Nat->Nat->Prop}(hn:1<=n)(hc:n<=c)(hk:k (adv size (p,c)).1 (n - 1) (c - 1)):VSl p size 1 (n:Int) (c:Int) k:=by
 refine .mk qZ qZ qZ fun q h1 h2=>?_
 have e1:(n:Int).toNat - (1:Int).toNat=n - 1:=by omega
 have e2:(c:Int).toNat - (1:Int).toNat=c - 1:=by omega
 rw [e1,e2]
 have:q=(adv size (p,c)).1:=by
  unfold adv
  dsimp only
  split
  ·rw [h1 qZ];simp
  ·exact h2 qZ
 rw [this]
 exact hk
end Go.Vx
end
namespace Go.Vx
theorem oA {z:Int}{k:Int->Prop}(hk:k z)(h1: -9223372036854775808<=z:=by omega)(h2:z<=9223372036854775807:=by omega):VAr .i64 z k:=.i64 h1 h2 hk
theorem oQ {a b:Int}{k:Int->Prop}(hk:k (a / b))(h1:0<=a:=by omega)(h2:0<b:=by omega)(h3:a<=9223372036854775807:=by omega):VQ .i64 a b k:=.pos h1 h2 h3 hk
theorem oM {a b:Int}{k:Int->Prop}(hk:k (a%b))(h1:0<=a:=by omega)(h2:0<b:=by omega):VM a b k:=.pos h1 h2 hk
end Go.Vx
namespace Go.Vx
theorem oV {k:Nat->Prop}(h:∀b,k b):VNew k:=.mk h
theorem oB {b:Bool}{A B:Prop}(h1:b=true->A)(h2:b=false->B):dM7 b A B:=bT0 h1 h2
theorem oY {p:Prop}{k:Bool->Prop}(hk:p->k true)(h:p:=by omega):VB p k:=bX5 h hk
theorem oN {p:Prop}{k:Bool->Prop}(hk:¬p->k false)(h:¬p:=by omega):VB p k:=bZ2 h hk
theorem oS {p:Prop}{k:Bool->Prop}(h1:p->k true)(h2:¬p->k false):VB p k:=VB.split h1 h2
theorem oL {w0:World}{M:List Nat}{H:HP}{b off s:Nat}{k:List Value->Prop}{e:TypeId}{cs:List Value}{u:Ent->HP}{r:HP}{vs:List Value}(hk:k vs)(hat:At H (.row b e cs) u r:=by exact Go.Vx.aT)(h:sub cs off s=some vs:=by rfl):VLd w0 M H b off s k:=.mk (.row hat h) hk
theorem oT {H:HP}{b off:Nat}{vs:List Value}{k:HP->Prop}{e:TypeId}{cs cs':List Value}{u:Ent->HP}{r:HP}(hk:k (u (.row b e cs')))(hat:At H (.row b e cs) u r:=by exact Go.Vx.aT)(h:upd cs off vs=some cs':=by rfl)(h1:bK6 vs=true:=by first|rfl|assumption):VSt H b off vs k:=.row hat h h1 hk
theorem oI {b off n size:Nat}{j:Int}{k:Value->Prop}(hk:k (.pointer (some ⟨b,off+j.toNat*size,none⟩)))(h1:0<=j:=by omega)(h2:j<n:=by omega):VIx (some ⟨b,off,none⟩) n size j k:=.mk rfl h1 h2 hk
theorem oK {Hs H:HP}{q:Prop}(hq:q)(h:HLe Hs H:=by exact Go.Vx.aH):VKeep Hs H q:=.mk h hq
theorem oH {H:HP}{k:HP->Prop}(h:k H):VHs H k:=.mk _ (.refl _) h
end Go.Vx

def tk (l:List Nat) (p:Go.Vx.Plan):Go.Vx.Plan:=l.foldr .take p
