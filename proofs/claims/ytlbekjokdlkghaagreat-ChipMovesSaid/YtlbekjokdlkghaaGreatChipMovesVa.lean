import Derived.Laws.AppendOwn
import Derived.Laws.OwnMore
import Derived.Laws.CopyRow
import Derived.OrdersHeld
import Derived.Below
import Derived.WalkKit
import Derived.Laws.Tables
import Derived.Laws.StructEq
import Derived.MapKept
import Derived.Maps.RangeRun
import Derived.WideKeyMaps
import Derived.WideKeyEntry
import Derived.Laws.BytesString
import Derived.Lib.AppendZeros
import Derived.Test.YtlbekjokdlkghaaGreatChipMovesA0
set_option linter.unusedSimpArgs false
section
namespace Go.Vx
open Go Go.RowKit
abbrev Env:=List (Nat×Value)
def find:Env->Nat->Option Value
 |[],_=>none
 |(k,v)::r,t=>match Nat.beq k t with
  |true=>some v
  |false=>find r t
abbrev dk:Nat:=1000000
def look (env:Env)(t:Nat):Option Value:=
 match Nat.beq 1000000 t with
 |true=>none
 |false=>find env t
theorem cV9 {env:Env}{t:Nat}{v:Value}(h:look env t=some v):find env t=some v/\t≠dk:=by
 unfold look at h
 cases hb:Nat.beq 1000000 t with
 |true=>simp [hb] at h
 |false=>simp only [hb] at h;exact ⟨h,fun e=>Nat.ne_of_beq_eq_false hb e.symm⟩
theorem cN8 {env:Env}{t:Nat}{v:Value}(h:find env t=some v)(ht:t≠dk):look env t=some v:=by
 unfold look
 cases hb:Nat.beq 1000000 t with
 |true=>exact absurd (qE hb).symm ht
 |false=>exact h
def dZ3 (d:Nat):Value:=.pointer (some ⟨d,0,none⟩)
def fH8:Value->Option Deferred
 | .pointer (some a)=>some {target:=.collected a.block,args:=#[]}
 |_=>none
def fL7:Value->List Deferred
 | .tuple vs=>vs.toList.filterMap fH8
 |_=>[]
def ev (env:Env):Operand->Option Value
 | .tmp t=>look env t
 | .const v=>some v
 | .global g=>some (.pointer (some ⟨g,0,none⟩))
 | .func f=>some (.func (.func f) #[] #[])
def evs (env:Env):List Operand->Option (List Value)
 |[]=>some []
 |x::r=>match ev env x with
  |some v=>match evs env r with
   |some vs=>some (v::vs)
   |none=>none
  |none=>none
structure Rep (n:Nat) (env:Env) (a:Act):Prop where
 size:a.tmps.size=n
 small:n<=dk
 defers:∀v,find env dk=some v->a.defers=fL7 v
 get:∀t v,look env t=some v->a.tmps[t]? =some v
theorem Rep.eval {n:Nat}{env:Env}{a:Act}(h:Rep n env a){x:Operand}{v:Value}(hx:ev env x=some v):a.eval x=v:=by
 cases x with
 |tmp t=>simp [Act.eval,h.get t v hx]
 |const c=>simpa [ev,Act.eval] using hx
 |global g=>simpa [ev,Act.eval] using hx
 |func f=>simpa [ev,Act.eval] using hx
theorem Rep.evals {n:Nat}{env:Env}{a:Act}(h:Rep n env a):∀{xs:List Operand} {vs:List Value},evs env xs=some vs->xs.map a.eval=vs
 |[],vs,hx=>by simp [evs] at hx;simp [hx]
 |x::r,vs,hx=>by
  simp only [evs] at hx
  cases h1:ev env x with
  |none=>simp [h1] at hx
  |some v=>
   cases h2:evs env r with
   |none=>simp [h1,h2] at hx
   |some ws=>
    simp only [h1,h2,qK] at hx
    subst hx
    simp [h.eval h1,h.evals h2]
theorem Rep.put {n:Nat}{env:Env}{a:Act}(h:Rep n env a){d:Nat}(hd:d<n)(v:Value):Rep n ((d,v)::env) (a.put (some d) v):=by
 have hs:=h.small
 refine ⟨by simp [Act.put,h.size],h.small,fun u hu=>?_,fun t u ht=>?_⟩
 ·have hb:Nat.beq d dk=false:=by
   cases hh:Nat.beq d dk with
   |true=>have:=qE hh;omega
   |false=>rfl
  simp only [find,hb] at hu
  simpa [Act.put] using h.defers u hu
 ·obtain ⟨ht,hne⟩:=cV9 ht;clear ‹look _ _=_›
  simp only [find] at ht
  simp only [Act.put]
  cases hb:Nat.beq d t with
  |true=>
   simp only [hb,qK] at ht
   have hdt:d=t:=qE hb
   subst hdt;rw [ht]
   rw [Array.getElem?_setIfInBounds]
   simp [h.size,hd]
  |false=>
   simp only [hb] at ht
   have hdt:d≠t:=Nat.ne_of_beq_eq_false hb
   rw [Array.getElem?_setIfInBounds_ne hdt]
   exact h.get t u (cN8 ht hne)
theorem Rep.mono {n:Nat}{env env':Env}{a:Act}(h:Rep n env a)(hs:∀t v,find env' t=some v->find env t=some v):Rep n env' a:=
 ⟨h.size,h.small,fun v hv=>h.defers v (hs _ v hv),fun t v ht=>by obtain ⟨ht,hne⟩:=cV9 ht;exact h.get t v (cN8 (hs t v ht) hne)⟩
def EnvLe:Env->Env->Prop
 |[],_=>True
 |(k,v)::r,env=>find env k=some v/\EnvLe r env
theorem EnvLe.spec {env:Env}:∀{env':Env},EnvLe env' env->∀t v,find env' t=some v->find env t=some v
 |[],_,t,v,h=>by simp [find] at h
 |(k,u)::r,⟨h1,h2⟩,t,v,h=>by
  simp only [find] at h
  cases hb:Nat.beq k t with
  |true=>
   simp only [hb,qK] at h
   have:=qE hb
   subst this;subst h;exact h1
  |false=>
   simp only [hb] at h
   exact EnvLe.spec h2 t v h
theorem Rep.le {n:Nat}{env env':Env}{a:Act}(h:Rep n env a)(hs:EnvLe env' env):Rep n env' a:=h.mono hs.spec
def fL6:List Nat->Nat->Bool
 |[],_=>false
 |k::r,t=>match Nat.beq k t with
  |true=>true
  |false=>fL6 r t
theorem cX4 {l:List Nat}{t:Nat}:fL6 l t=true<->t∈l:=by
 induction l with
 |nil=>simp [fL6]
 |cons k r ih=>
  simp only [fL6]
  cases hb:Nat.beq k t with
  |true=>have:=qE hb;simp [this]
  |false=>
   have:=Nat.ne_of_beq_eq_false hb
   simp [ih,Ne.symm this]
inductive Ent where
 /-- block b holds just these cells -/
 |row (b:Nat) (e:TypeId) (cs:List Value)
 /-- the slice value .slice p n cap is our own (from its block's start on, with all spare room), and its elements' cells are xs -/
 |vec (p:Option Addr) (n cap:Nat) (e:TypeId) (size:Nat) (xs:List Value)
 /-- block b is a map with integer keys -/
 |map (b:Nat) (m:List (Int×Value))
 /-- block b is a map, its keys whatever -/
 |mapk (b:Nat) (m:List (Value×Value))
 /-- block b is this object -/
 |obj (b:Nat) (o:Obj)
 /-- block b is the record of a range-over-function loop: of a frame of n slots, of which env is known -/
 |loop (b:Nat) (s:LoopState) (pending:Option Code) (n:Nat) (env:Env) (ps:Array Tmp) (assign body:Code) (d:Nat)
abbrev HP:=List Ent
def Ent.id:Ent->Option Nat
 | .row b _ _=>some b
 | .vec p _ _ _ _ _=>p.map (·.block)
 | .map b _=>some b
 | .mapk b _=>some b
 | .obj b _=>some b
 | .loop b .. =>some b
def mapIs (w:World)(b:Nat)(m:List (Int×Value)):Prop:=
 ∃es clock,w.heap[b]? =some (.map es clock)/\es.toList.map (fun x=>(x.key,x.val))=m.map (fun x=>(.int .i64 x.1,x.2))/\MapKept.Stamped es clock
def kP2 (w:World)(b:Nat)(m:List (Value×Value)):Prop:=
 ∃es clock,w.heap[b]? =some (.map es clock)/\es.toList.map (fun x=>(x.key,x.val))=m/\MapKept.Stamped es clock
def Ent.sat (w:World):Ent->Prop
 | .row b e cs=>w.heap[b]? =some (.cells cs.toArray e (0,0))
 | .vec p n cap e size xs=>w.ownsRow 0 e size (.slice p n cap) n xs
 | .map b m=>mapIs w b m
 | .mapk b m=>kP2 w b m
 | .obj b o=>w.heap[b]? =some o
 | .loop b s pe n env ps x y d=>∃fn tmps,tmps.size=n/\n<=dk/\(∀t v,look env t=some v->tmps[t]? =some v)/\w.heap[b]? =some (.loop ⟨s,pe,fn,tmps,ps,x,y,d⟩)
theorem Ent.lt {w:World}:∀{x:Ent},x.sat w->∀b,x.id=some b->b<w.heap.size
 | .row b e cs,h,c,hc=>by cases hc;exact (Qh.1 h).1
 | .vec p n cap e size xs,h,c,hc=>by
  have:=World.ownsRow.lt h c (by cases p with|none=>simp [Ent.id] at hc|some a=>simpa [Ent.id,Value.ownBlock] using hc)
  exact this.2
 | .map b m,h,c,hc=>by cases hc;obtain ⟨es,cl,h1,_⟩:=h;exact (Qh.1 h1).1
 | .mapk b m,h,c,hc=>by cases hc;obtain ⟨es,cl,h1,_⟩:=h;exact (Qh.1 h1).1
 | .obj b o,h,c,hc=>by cases hc;exact (Qh.1 h).1
 | .loop ..,h,c,hc=>by cases hc;obtain ⟨_,_,_,_,_,h⟩:=h;exact (Qh.1 h).1
theorem Ent.keep {w w':World}:∀{x:Ent},x.sat w->(∀b,x.id=some b->w'.heap[b]? =w.heap[b]?)->x.sat w'
 | .row b e cs,h,hk=>by show w'.heap[b]? =_;rw [hk b rfl];exact h
 | .vec p n cap e size xs,h,hk=>by
  obtain ⟨h1,h2⟩:=h
  refine ⟨h1,?_⟩
  rcases h2 with h2|⟨g,c,cur,hv,hb,hg,r⟩
  ·exact .inl h2
  ·refine .inr ⟨g,c,cur,hv,hb,?_,r⟩
   simp only [Value.slice.injEq] at hv
   rw [hk g (by simp [Ent.id,hv.1])];exact hg
 | .map b m,h,hk=>by obtain ⟨es,cl,h1,h2⟩:=h;exact ⟨es,cl,by rw [hk b rfl];exact h1,h2⟩
 | .mapk b m,h,hk=>by obtain ⟨es,cl,h1,h2⟩:=h;exact ⟨es,cl,by rw [hk b rfl];exact h1,h2⟩
 | .obj b o,h,hk=>by show w'.heap[b]? =_;rw [hk b rfl];exact h
 | .loop b ..,h,hk=>by obtain ⟨f,ts,h1,h2,h3,h4⟩:=h;exact ⟨f,ts,h1,h2,h3,by rw [hk b rfl];exact h4⟩
def ids (H:HP):List Nat:=H.filterMap Ent.id
structure St (w0:World) (M:List Nat) (H:HP) (w:World):Prop where
 os:w.os=w0.os
 tape:w.tape=w0.tape
 output:w.output=w0.output
 size:w0.heap.size<=w.heap.size
 old:∀b,b<w0.heap.size->b∉M->w.heap[b]? =w0.heap[b]?
 own:∀x∈H,x.sat w
 from_:∀b∈ids H,b∈M\/w0.heap.size<=b
 nodup:(ids H).Nodup
theorem St.start (w:World)(M:List Nat):St w M [] w:=
 ⟨rfl,rfl,rfl,qA _,fun _ _ _=>rfl,by simp,by simp [ids],by simp [ids]⟩
theorem St.drew {w0:World}{M:List Nat}{H:HP}{w:World}(h:St w0 M H w):St w0 M H {w with drawn:=w.drawn+1}:=
 ⟨h.os,h.tape,h.output,h.size,h.old,fun x hx=>Ent.keep (h.own x hx) (fun _ _=>rfl),h.from_,h.nodup⟩
theorem bB2 (x:Ent)(H:HP):ids (x::H)=x.id.toList++ids H:=by
 unfold ids
 cases hx:x.id<;>simp [hx]
inductive At:HP->Ent->(Ent->HP)->HP->Prop
 |here {x:Ent} {H:HP}:At (x::H) x (fun y=>y::H) H
 |there {x z:Ent} {H:HP} {u:Ent->HP} {r:HP} (h:At H x u r):At (z::H) x (fun y=>z::u y) (z::r)
theorem At.mem {H:HP}{x:Ent}{u:Ent->HP}{r:HP}(h:At H x u r):x∈H:=by
 induction h with
 |here=>simp
 |there _ ih=>simp [ih]
theorem At.perm {H:HP}{x:Ent}{u:Ent->HP}{r:HP}(h:At H x u r):H.Perm (x::r):=by
 induction h with
 |here=>exact .refl _
 |there _ ih=>exact (ih.cons _).trans (.swap _ _ _)
theorem At.permU {H:HP}{x:Ent}{u:Ent->HP}{r:HP}(h:At H x u r)(y:Ent):(u y).Perm (y::r):=by
 induction h with
 |here=>exact .refl _
 |there _ ih=>exact (ih.cons _).trans (.swap _ _ _)
theorem fX8 {H H':HP}(h:H.Perm H'):(ids H).Perm (ids H'):=h.filterMap _
theorem St.perm {w0:World}{M:List Nat}{H H':HP}{w:World}(h:St w0 M H w)(hp:H.Perm H'):St w0 M H' w:=
 ⟨h.os,h.tape,h.output,h.size,h.old,fun x hx=>h.own x (hp.mem_iff.2 hx),fun b hb=>h.from_ b ((fX8 hp).mem_iff.2 hb),(fX8 hp).nodup_iff.1 h.nodup⟩
theorem St.tail {w0:World}{M:List Nat}{x:Ent}{H:HP}{w:World}(h:St w0 M (x::H) w):St w0 M H w:=by
 refine ⟨h.os,h.tape,h.output,h.size,h.old,fun y hy=>h.own y (by simp [hy]),fun b hb=>h.from_ b ?_,?_⟩
 ·rw [bB2];exact QT _ hb
 ·have:=h.nodup;rw [bB2] at this;exact (Qe.1 this).2.1
theorem St.apart {w0:World}{M:List Nat}{x:Ent}{H:HP}{w:World}(h:St w0 M (x::H) w){b:Nat}(hb:x.id=some b):b∉ids H:=by
 have:=h.nodup
 rw [bB2,hb] at this
 simp only [qW,Qw,Qc,QC] at this
 exact this.1
theorem St.step {w0:World}{M:List Nat}{x y:Ent}{r:HP}{w w':World}(h:St w0 M (x::r) w)
  (os:w'.os=w.os) (tape:w'.tape=w.tape) (output:w'.output=w.output) (size:w.heap.size<=w'.heap.size)
  (keep:∀b,b<w.heap.size->x.id≠some b->w'.heap[b]? =w.heap[b]?)
  (hy:y.sat w') (hid:∀b,y.id=some b->x.id=some b\/w.heap.size<=b):St w0 M (y::r) w':=by
 have hin:∀b,x.id=some b->b∈M\/w0.heap.size<=b:=fun b hb=>h.from_ b (by rw [bB2,hb];simp)
 refine ⟨os.trans h.os,tape.trans h.tape,output.trans h.output,Qb h.size size,?_,?_,?_,?_⟩
 ·intro b hb hM
  rw [keep b (Nat.lt_of_lt_of_le hb h.size) (fun e=>by rcases hin b e with h1|h1;exact hM h1;omega)]
  exact h.old b hb hM
 ·intro z hz
  simp only [qQ] at hz
  rcases hz with rfl|hz
  ·exact hy
  ·have hzs:=h.own z (by simp [hz])
   refine Ent.keep hzs fun b hb=>keep b (Ent.lt hzs b hb) fun e=>?_
   exact h.apart e (List.mem_filterMap.2 ⟨z,hz,hb⟩)
 ·intro b hb
  rw [bB2] at hb
  rcases qH.1 hb with hb|hb
  ·have hb':y.id=some b:=by cases hh:y.id<;>simp_all
   rcases hid b hb' with h1|h1
   ·exact hin b h1
   ·exact .inr (Qb h.size h1)
  ·exact h.tail.from_ b hb
 ·rw [bB2]
  cases hh:y.id with
  |none=>simpa using h.tail.nodup
  |some b=>
   simp only [qW,Qw,Qc,QC]
   refine ⟨fun hb=>?_,h.tail.nodup⟩
   rcases hid b hh with h1|h1
   ·exact h.apart h1 hb
   ·obtain ⟨z,hz,hzb⟩:=List.mem_filterMap.1 hb
    have:=Ent.lt (h.own z (by simp [hz])) b hzb
    omega
theorem St.new {w0:World}{M:List Nat}{y:Ent}{H:HP}{w w':World}(h:St w0 M H w)
  (os:w'.os=w.os) (tape:w'.tape=w.tape) (output:w'.output=w.output) (size:w.heap.size<=w'.heap.size)
  (keep:∀b,b<w.heap.size->w'.heap[b]? =w.heap[b]?)
  (hy:y.sat w') (hid:∀b,y.id=some b->w.heap.size<=b):St w0 M (y::H) w':=by
 have hx:St w0 M (Ent.vec none 0 0 0 0 []::H) w:=
  ⟨h.os,h.tape,h.output,h.size,h.old,fun z hz=>by
   simp only [qQ] at hz
   rcases hz with rfl|hz
   ·exact World.ownsRow_nil _ _ _ _
   ·exact h.own z hz,fun b hb=>h.from_ b (by simpa [bB2,Ent.id] using hb),by simpa [bB2,Ent.id] using h.nodup⟩
 exact hx.step os tape output size (fun b hb _=>keep b hb) hy (fun b hb=>.inr (hid b hb))
theorem St.nil {w0:World}{M:List Nat}{H:HP}{w:World}(h:St w0 M H w)(e size:Nat):St w0 M (Ent.vec none 0 0 e size []::H) w:=
 h.new rfl rfl rfl (qA _) (fun _ _=>rfl) (World.ownsRow_nil _ _ _ _) (by simp [Ent.id])
theorem St.turn {w0:World}{M:List Nat}{H:HP}{x:Ent}{u:Ent->HP}{r:HP}(hat:At H x u r){y:Ent}{w w':World}(h:St w0 M H w)
  (hs:St w0 M (x::r) w->St w0 M (y::r) w'):St w0 M (u y) w':=
 (hs (h.perm hat.perm)).perm (hat.permU y).symm
structure HLe (H' H:HP):Prop where
 sat:∀w,(∀x∈H,x.sat w)->∀x∈H',x.sat w
 cnt:∀b,(ids H').count b<=(ids H).count b
theorem HLe.nil {H:HP}:HLe [] H:=⟨by simp,by simp [ids]⟩
theorem HLe.refl (H:HP):HLe H H:=⟨fun _ h=>h,fun _=>qA _⟩
theorem HLe.trans {A B C:HP}(h1:HLe A B)(h2:HLe B C):HLe A C:=⟨fun w h=>h1.sat w (h2.sat w h),fun b=>Qb (h1.cnt b) (h2.cnt b)⟩
theorem gX1 (A B:HP):ids (A++B)=ids A++ids B:=List.filterMap_append ..
theorem bN6 {A B:HP}(C:HP)(hp:B.Perm (A++C)):HLe A B:=by
 refine ⟨fun w h x hx=>h x (hp.mem_iff.2 (QW _ hx)),fun b=>?_⟩
 rw [(fX8 hp).count_eq,gX1,List.count_append]
 omega
theorem HLe.perm {A B C:HP}(h:HLe A B)(hp:B.Perm C):HLe A C:=h.trans (bN6 [] (by simpa using hp.symm))
theorem HLe.permL {A A' B:HP}(h:HLe A B)(hp:A'.Perm A):HLe A' B:=(bN6 [] (by simpa using hp.symm)).trans h
theorem HLe.app {A A' B B':HP}(h1:HLe A B)(h2:HLe A' B'):HLe (A++A') (B++B'):=by
 refine ⟨fun w h x hx=>?_,fun b=>?_⟩
 ·rcases qH.1 hx with hx|hx
  ·exact h1.sat w (fun y hy=>h y (QW _ hy)) x hx
  ·exact h2.sat w (fun y hy=>h y (QT _ hy)) x hx
 ·have:=h1.cnt b
  have:=h2.cnt b
  rw [gX1,gX1,List.count_append,List.count_append]
  omega
theorem HLe.left {A B:HP}(S:HP)(h:HLe A B):HLe (S++A) (S++B):=(HLe.refl S).app h
theorem HLe.cons {x:Ent}{H' H r:HP}{u:Ent->HP}(h:At H x u r)(hr:HLe H' r):HLe (x::H') H:=(HLe.left [x] hr).perm h.perm.symm
theorem HLe.weak {x y:Ent}{H' H r:HP}{u:Ent->HP}(h:At H x u r)(hr:HLe H' r)(hs:∀w,x.sat w->y.sat w)(hi:y.id=x.id):HLe (y::H') H:=by
 refine (HLe.app (A:=[y]) (B:=[x]) ⟨fun w hw z hz=>?_,fun b=>?_⟩ hr).perm h.perm.symm
 ·simp only [qt] at hz
  subst hz
  exact hs w (hw x oU)
 ·have:ids [y]=ids [x]:=by rw [bB2,bB2,hi]
  rw [this]
  exact qA _
theorem HLe.nilv {H' H:HP}{e size:Nat}(hr:HLe H' H):HLe (.vec none 0 0 e size []::H') H:=by
 refine ⟨fun w h x hx=>?_,fun b=>?_⟩
 ·rcases qQ.1 hx with rfl|hx
  ·exact World.ownsRow_nil _ _ _ _
  ·exact hr.sat w h x hx
 ·have:=hr.cnt b
  rw [bB2]
  simpa [Ent.id] using this
theorem St.le {w0:World}{M:List Nat}{H H':HP}{w:World}(h:St w0 M H w)(hl:HLe H' H):St w0 M H' w:=by
 refine ⟨h.os,h.tape,h.output,h.size,h.old,hl.sat w h.own,fun b hb=>?_,?_⟩
 ·have h1:=List.count_pos_iff.2 hb
  have h2:=hl.cnt b
  exact h.from_ b (List.count_pos_iff.1 qZ)
 ·rw [List.nodup_iff_count]
  intro b
  have h1:=List.nodup_iff_count.1 h.nodup b
  have h2:=hl.cnt b
  omega
theorem St.call {w0:World}{M M1:List Nat}{H H1 H2:HP}{w w':World}(h:St w0 M H w)(h1:St w M1 H1 w')
  (hl:HLe H2 H) (hM:∀b∈M1,b∈M\/w0.heap.size<=b) (hd:∀b∈ids H2,b∉M1):St w0 M (H1++H2) w':=by
 have h2:=h.le hl
 refine ⟨h1.os.trans h.os,h1.tape.trans h.tape,h1.output.trans h.output,Qb h.size h1.size,?_,?_,?_,?_⟩
 ·intro b hb hb'
  rw [h1.old b (Nat.lt_of_lt_of_le hb h.size) (fun e=>by rcases hM b e with h3|h3;exact hb' h3;omega)]
  exact h.old b hb hb'
 ·intro x hx
  rcases qH.1 hx with hx|hx
  ·exact h1.own x hx
  ·have hs:=h2.own x hx
   exact Ent.keep hs fun b hb=>h1.old b (Ent.lt hs b hb) (hd b (List.mem_filterMap.2 ⟨x,hx,hb⟩))
 ·intro b hb
  rw [ids,List.filterMap_append] at hb
  rcases qH.1 hb with hb|hb
  ·rcases h1.from_ b hb with h3|h3
   ·exact hM b h3
   ·exact .inr (Qb h.size h3)
  ·exact h2.from_ b hb
 ·rw [ids,List.filterMap_append,Qe]
  refine ⟨h1.nodup,h2.nodup,fun a ha b hb e=>?_⟩
  subst e
  obtain ⟨x,hx,hxa⟩:=List.mem_filterMap.1 hb
  have hlt:=Ent.lt (h2.own x hx) a hxa
  rcases h1.from_ a ha with h3|h3
  ·exact hd a hb h3
  ·omega
theorem St.call_fresh {w0:World}{M:List Nat}{H H1:HP}{w w':World}(h:St w0 M H w)(h1:St w [] H1 w'):St w0 M (H1++H) w':=
 h.call h1 (HLe.refl H) oU oU
end Go.Vx
end
section
namespace Go.Vx
open Go Go.RowKit
inductive TD where
 |int (k:IntKind)
 |bool
 |pointer
 |slice (e:TypeId)
 |array (n:Nat) (e:TypeId)
 |map (k e:TypeId)
 |struct (fs:List (Nat×TypeId))
 |other
 deriving DecidableEq
def bR8:TypeDesc->TD
 | .int k=>.int k
 | .bool=>.bool
 | .pointer _=>.pointer
 | .slice e=>.slice e
 | .array n e=>.array n e
 | .map k e=>.map k e
 | .struct fs=>.struct (fs.toList.map fun f=>(f.offset,f.type))
 |_=>.other
structure TI where
 td:TD
 size:Nat
 bytes:Nat
 zero:Value
structure TI.ok (P:Program) (t:TypeId) (x:TI):Prop where
 td:(P.underlying t).map bR8=some x.td
 info:(P.info? t).map (fun i=>(i.size,i.bytes,i.zero))=some (x.size,x.bytes,some x.zero)
abbrev Lay:=List (Nat×TI)
def lay:Lay->Nat->Option TI
 |[],_=>none
 |(k,x)::r,t=>match Nat.beq k t with
  |true=>some x
  |false=>lay r t
def LayOk (P:Program):Lay->Prop
 |[]=>True
 |p::r=>p.2.ok P p.1/\LayOk P r
theorem LayOk.at {P:Program}:∀{L:Lay},LayOk P L->∀{t:Nat} {x:TI},lay L t=some x->x.ok P t
 |[],_,t,x,h=>by simp [lay] at h
 |(k,y)::r,⟨h1,h2⟩,t,x,h=>by
  simp only [lay] at h
  cases hb:Nat.beq k t with
  |true=>
   simp only [hb,qK] at h
   have:=qE hb
   subst this;subst h;exact h1
  |false=>simp only [hb] at h;exact LayOk.at h2 h
section ti
variable {P : Program} {t : TypeId} {x : TI}
theorem TI.ok.info' (h:x.ok P t):∃i,P.info? t=some i/\i.size=x.size/\i.bytes=x.bytes/\i.zero=some x.zero:=by
 have:=h.info
 cases hi:P.info? t with
 |none=>simp [hi] at this
 |some i=>simp [hi] at this;exact ⟨i,rfl,this.1,this.2.1,this.2.2⟩
theorem TI.ok.under (h:x.ok P t):∃d,P.underlying t=some d/\bR8 d=x.td:=by
 have:=h.td
 cases hi:P.underlying t with
 |none=>simp [hi] at this
 |some d=>simp [hi] at this;exact ⟨d,rfl,this⟩
theorem TI.ok.int {k:IntKind}(h:x.ok P t)(ht:x.td=.int k):P.underlying t=some (.int k):=by
 obtain ⟨d,hd,hs⟩:=h.under
 rw [ht] at hs;cases d<;>simp [bR8] at hs;subst hs;exact hd
theorem TI.ok.slice {e:TypeId}(h:x.ok P t)(ht:x.td=.slice e):P.underlying t=some (.slice e):=by
 obtain ⟨d,hd,hs⟩:=h.under
 rw [ht] at hs;cases d<;>simp [bR8] at hs;subst hs;exact hd
theorem TI.ok.array {n:Nat}{e:TypeId}(h:x.ok P t)(ht:x.td=.array n e):P.underlying t=some (.array n e):=by
 obtain ⟨d,hd,hs⟩:=h.under
 rw [ht] at hs;cases d<;>simp [bR8] at hs;obtain ⟨rfl,rfl⟩:=hs;exact hd
theorem TI.ok.map {n:TypeId}{e:TypeId}(h:x.ok P t)(ht:x.td=.map n e):P.underlying t=some (.map n e):=by
 obtain ⟨d,hd,hs⟩:=h.under
 rw [ht] at hs;cases d<;>simp [bR8] at hs;obtain ⟨rfl,rfl⟩:=hs;exact hd
theorem TI.ok.struct {fs:List (Nat×TypeId)}(h:x.ok P t)(ht:x.td=.struct fs):∃fields:Array Field,P.underlying t=some (.struct fields)/\fields.toList.map (fun f=>(f.offset,f.type))=fs:=by
 obtain ⟨d,hd,hs⟩:=h.under
 rw [ht] at hs;cases d<;>simp [bR8] at hs;subst hs;exact ⟨_,hd,by simp⟩
theorem TI.ok.bool (h:x.ok P t)(ht:x.td=.bool):P.underlying t=some .bool:=by
 obtain ⟨d,hd,hs⟩:=h.under
 rw [ht] at hs;cases d<;>simp [bR8] at hs;exact hd
theorem TI.ok.pointer (h:x.ok P t)(ht:x.td=.pointer):∃e,P.underlying t=some (.pointer e):=by
 obtain ⟨d,hd,hs⟩:=h.under
 rw [ht] at hs;cases d<;>simp [bR8] at hs;exact ⟨_,hd⟩
end ti
def mK4 (P:Program)(t:TypeId):Bool:=
 !P.eqGuardType P.depth t && !P.stoodInHeld t && (P.fieldsOf t).toList.all fun f => f.name != "_"
structure Cx where
 P:Program
 L:Lay
 fns:List Nat
 /-- structs that may be compared: no field is blank, none holds what the model stands in for -/
 eqs:List Nat
 okL:LayOk P L
 okF : ∀ f ∈ fns, ∃ fn, P.funcs[f]? = some fn ∧ fn.body.isNone = false ∧ (fn.name == "runtime.NumGoroutine") = false
 okE:∀t∈eqs,mK4 P t=true
 mixed:P.follows .mixedOrders=true
inductive VB (p:Prop) (k:Bool->Prop):Prop
 |mk (h:∀b:Bool,(b=true<->p)->k b)
theorem VB.split {p:Prop}{k:Bool->Prop}(h1:p->k true)(h2:¬p->k false):VB p k:=
 .mk fun b hb=>by
  cases b
  ·exact h2 fun hp=>by have:=hb.2 hp;cases this
  ·exact h1 (hb.1 rfl)
theorem VB.use {p:Prop}{k:Bool->Prop}(h:VB p k)(b:Bool)(hb:b=true<->p):k b:=h.1 b hb
inductive VAr (kd:IntKind) (z:Int) (k:Int->Prop):Prop
 |fits (h:kd.wrap z=z) (hk:k z)
 |wraps (hk:k (kd.wrap z))
theorem VAr.use {kd:IntKind}{z:Int}{k:Int->Prop}(h:VAr kd z k):k (kd.wrap z):=by
 cases h with
 |fits h hk=>rw [h];exact hk
 |wraps hk=>exact hk
theorem wrap_i64 {z:Int}(h1: -9223372036854775808<=z)(h2:z<=9223372036854775807):IntKind.i64.wrap z=z:=by
 rw [IntKind.wrap_i64]
 omega
theorem VAr.i64 {z:Int}{k:Int->Prop}(h1: -9223372036854775808<=z)(h2:z<=9223372036854775807)(hk:k z):VAr .i64 z k:=
 .fits (wrap_i64 h1 h2) hk
theorem VAr.any {z:Int}{k:Int->Prop}(h:∀c,(-9223372036854775808<=z/\z<=9223372036854775807->c=z)->k c):VAr .i64 z k:=
 .wraps (h _ fun ⟨h1,h2⟩=>wrap_i64 h1 h2)
inductive VQ (kd:IntKind) (a b:Int) (k:Int->Prop):Prop
 |mk (hb:b≠0) (h:VAr kd (a.tdiv b) k)
theorem VQ.pos {a b:Int}{k:Int->Prop}(ha:0<=a)(hb:0<b)(h2:a<=9223372036854775807)(hk:k (a / b)):VQ .i64 a b k:=by
 refine .mk qZ ?_
 rw [Int.tdiv_eq_ediv_of_nonneg ha]
 refine .i64 ?_ ?_ hk
 ·have:=Int.ediv_nonneg ha (Int.le_of_lt hb);omega
 ·have:=Int.ediv_le_self b ha;omega
theorem dV9 {a b:Int}: -a.natAbs<=a.tdiv b/\a.tdiv b<=a.natAbs:=by
 have h1:(a.tdiv b).natAbs<=a.natAbs:=by
  rw [Int.natAbs_tdiv]
  exact Nat.div_le_self _ _
 omega
theorem VQ.any {a b:Int}{k:Int->Prop}(hb:0<b)(h1: -9223372036854775807<=a)(h2:a<=9223372036854775807)(hk:k (a.tdiv b)):VQ .i64 a b k:=by
 have:=dV9 (a:=a) (b:=b)
 exact .mk qZ (.i64 qZ qZ hk)
inductive VM (a b:Int) (k:Int->Prop):Prop
 |mk (hb:b≠0) (h:k (a.tmod b))
theorem VM.pos {a b:Int}{k:Int->Prop}(ha:0<=a)(hb:0<b)(hk:k (a%b)):VM a b k:=by
 refine .mk qZ ?_
 rw [Int.tmod_eq_emod_of_nonneg ha]
 exact hk
def dM7 (b:Bool)(A B:Prop):Prop:=
 match b with
 |true=>A
 |false=>B
theorem bT0 {b:Bool}{A B:Prop}(h1:b=true->A)(h2:b=false->B):dM7 b A B:=by
 cases b
 ·exact h2 rfl
 ·exact h1 rfl
def dF9:List Value->Nat
 |[]=>0
 |_::r=>dF9 r+1
theorem bM8:∀l:List Value,dF9 l=l.length
 |[]=>rfl
 |_::r=>by simp [dF9,bM8 r]
def lZ2 (env:Env)(x:Operand)(k:Value->Prop):Prop:=
 match ev env x with
 |some v=>k v
 |none=>False
def lK3 (env:Env)(c a b:Operand)(k:Value->Prop):Prop:=
 match ev env c with
 |some (.bool t)=>dM7 t (lZ2 env a k) (lZ2 env b k)
 |_=>False
def kP8 (L:Lay)(env:Env)(s:TypeId)(x:Operand)(f:Nat)(k:Value->Prop):Prop:=
 match ev env x with
 |some (.pointer (some ⟨b,off,none⟩))=>
  match lay L s with
  |some ti=>
   match ti.td with
   | .struct fs=>
    match fs[f]? with
    |some (o,ty)=>
     match lay L ty with
     |some fi=>
      match Nat.beq fi.size 0 with
      |true=>False
      |false=>k (.pointer (some ⟨b,off+o,none⟩))
     |none=>False
    |none=>False
   |_=>False
  |none=>False
 |_=>False
inductive VIx (p:Option Addr) (n size:Nat) (j:Int) (k:Value->Prop):Prop
 |mk {b off:Nat} (hp:p=some ⟨b,off,none⟩) (h1:0<=j) (h2:j<n) (hk:k (.pointer (some ⟨b,off+j.toNat*size,none⟩)))
def kP5 (L:Lay)(env:Env)(t:TypeId)(x i:Operand)(k:Value->Prop):Prop:=
 match ev env i with
 |some (.int _ j)=>
  match lay L t with
  |some ti=>
   match ti.td with
   | .slice e=>
    match lay L e with
    |some ei=>
     match ev env x with
     |some (.slice p n _)=>VIx p n ei.size j k
     |_=>False
    |none=>False
   | .array n e=>
    match lay L e with
    |some ei=>
     match ev env x with
     |some (.pointer p)=>VIx p n ei.size j k
     |_=>False
    |none=>False
   |_=>False
  |none=>False
 |_=>False
def mY7 (env:Env)(x:Operand)(k:Value->Prop):Prop:=
 match ev env x with
 |some (.pointer (some a))=>k (.pointer (some a))
 |some (.func (.func f) a b)=>k (.func (.func f) a b)
 |some (.func (.yield f) a b)=>k (.func (.yield f) a b)
 |_=>False
inductive VShL (kd:IntKind) (a b:Int) (k:Int->Prop):Prop
 |mk (hb:0<=b) (hk:k (kd.wrap (a*2 ^ (min b.toNat kd.bits))))
inductive VShR (kd:IntKind) (a b:Int) (k:Int->Prop):Prop
 |mk (hb:0<=b) (hk:k (a.fdiv (2 ^ (min b.toNat kd.bits))))
def cP5 (op:BinOp)(kd:IntKind)(a b:Int):Int:=
 let x:=BitVec.ofInt kd.bits a
 let y:=BitVec.ofInt kd.bits b
 match op with
 | .and=>kd.wrap (x&&&y).toNat
 | .or=>kd.wrap (x ||| y).toNat
 | .xor=>kd.wrap (x ^^^ y).toNat
 |_=>kd.wrap (x&&&~~~y).toNat
inductive VBit (op:BinOp) (kd:IntKind) (a b:Int) (k:Int->Prop):Prop
 |mk (hk:k (cP5 op kd a b))
def shE (op:BinOp)(kd:IntKind)(a b:Int)(k:Value->Prop):Prop:=
 match op with
 | .shl=>VShL kd a b fun c=>k (.int kd c)
 | .shr=>VShR kd a b fun c=>k (.int kd c)
 |_=>False
def mJ2 (op:BinOp)(kd:IntKind)(a b:Int)(k:Value->Prop):Prop:=
 match op with
 | .shl=>VShL kd a b fun c=>k (.int kd c)
 | .shr=>VShR kd a b fun c=>k (.int kd c)
 | .and=>VBit .and kd a b fun c=>k (.int kd c)
 | .or=>VBit .or kd a b fun c=>k (.int kd c)
 | .xor=>VBit .xor kd a b fun c=>k (.int kd c)
 | .andNot=>VBit .andNot kd a b fun c=>k (.int kd c)
 | .add=>VAr kd (a+b) fun c=>k (.int kd c)
 | .sub=>VAr kd (a - b) fun c=>k (.int kd c)
 | .mul=>VAr kd (a*b) fun c=>k (.int kd c)
 | .quo=>VQ kd a b fun c=>k (.int kd c)
 | .rem=>VM a b fun c=>k (.int kd c)
 | .eql=>VB (a=b) fun c=>k (.bool c)
 | .neq=>VB (a≠b) fun c=>k (.bool c)
 | .lss=>VB (a<b) fun c=>k (.bool c)
 | .leq=>VB (a<=b) fun c=>k (.bool c)
 | .gtr=>VB (b<a) fun c=>k (.bool c)
 | .geq=>VB (b<=a) fun c=>k (.bool c)
def cW2:List Value->List Value->Option Prop
 |[],[]=>some True
 | .int .i64 a::xs,.int .i64 b::ys=>
  match cW2 xs ys with
  |some p=>some (a=b/\p)
  |none=>none
 |_,_=>none
def lC6 (op:BinOp)(p:Prop)(k:Value->Prop):Prop:=
 match op with
 | .eql=>VB p fun c=>k (.bool c)
 | .neq=>VB (¬p) fun c=>k (.bool c)
 |_=>False
def cW3 (L:Lay):List (Nat×TypeId)->Nat->Bool
 |[],_=>true
 |(o,t)::r,j=>
  match Nat.beq o j with
  |false=>false
  |true=>
   match lay L t with
   |some ti=>
    match ti.td with
    | .int .i64=>cW3 L r (j+1)
    |_=>false
   |none=>false
def fB7 (op:BinOp)(nil:Bool)(k:Value->Prop):Prop:=
 match op with
 | .eql=>k (.bool nil)
 | .neq=>k (.bool (!nil))
 |_=>False
def mK9 (L:Lay)(eqs:List Nat)(op:BinOp)(t:TypeId)(x y:Value)(k:Value->Prop):Prop:=
 match x,y with
 | .int ka a,.int kb b=>
  match decide (ka=kb) with
  |true=>mJ2 op ka a b k
  |false=>shE op ka a b k
 | .bool a,.bool b=>
  match lay L t with
  |some ti=>
   match ti.td with
   | .bool=>lC6 op (a=b) k
   |_=>False
  |none=>False
 | .agg xs,.agg ys=>
  match lay L t with
  |some ti=>
   match ti.td with
   | .struct fs=>
    match cW3 L fs 0 with
    |true=>
     match cW2 xs.toList ys.toList with
     |some p=>
      match Nat.beq (fs.length) (dF9 xs.toList) with
      |true=>
       match fL6 eqs t with
       |true=>lC6 op p k
       |false=>False
      |false=>False
     |none=>False
    |false=>False
   |_=>False
  |none=>False
 | .slice p _ _,.slice none _ _=>
  match lay L t with
  |some ti=>
   match ti.td with
   | .slice _=>fB7 op p.isNone k
   |_=>False
  |none=>False
 | .map p,.map none=>
  match lay L t with
  |some ti=>
   match ti.td with
   | .map _ _=>fB7 op p.isNone k
   |_=>False
  |none=>False
 | .pointer p,.pointer none=>
  match lay L t with
  |some ti=>
   match ti.td with
   | .pointer=>fB7 op p.isNone k
   |_=>False
  |none=>False
 |_,_=>False
def kD6 (L:Lay)(eqs:List Nat)(env:Env)(op:BinOp)(t:TypeId)(x y:Operand)(k:Value->Prop):Prop:=
 match ev env x with
 |some vx=>
  match ev env y with
  |some vy=>mK9 L eqs op t vx vy k
  |none=>False
 |none=>False
def lJ1 (env:Env)(op:UnOp)(x:Operand)(k:Value->Prop):Prop:=
 match op with
 | .not=>
  match ev env x with
  |some (.bool b)=>dM7 b (k (.bool false)) (k (.bool true))
  |_=>False
 | .neg=>
  match ev env x with
  |some (.int kd a)=>VAr kd (0 - a) fun c=>k (.int kd c)
  |_=>False
 |_=>False
def lM5 (L:Lay)(env:Env)(s d:TypeId)(x:Operand)(k:Value->Prop):Prop:=
 match ev env x with
 |some (.int _ a)=>
  match lay L s with
  |some si=>
   match si.td with
   | .int _=>
    match lay L d with
    |some di=>
     match di.td with
     | .int kd=>VAr kd a fun c=>k (.int kd c)
     |_=>False
    |none=>False
   |_=>False
  |none=>False
 |_=>False
def kR4:List Value->Nat->Option Value
 |[],_=>none
 |v::_,0=>some v
 |_::r,n+1=>kR4 r n
theorem hY2:∀(l:List Value) (n:Nat),kR4 l n=l[n]?
 |[],_=>by simp [kR4]
 |v::r,0=>by simp [kR4]
 |v::r,n+1=>by simp [kR4,hY2 r n]
def gF9 (env:Env)(x:Operand)(i:Nat)(k:Value->Prop):Prop:=
 match ev env x with
 |some (.tuple vs)=>
  match kR4 vs.toList i with
  |some v=>k v
  |none=>False
 |_=>False
def lM0 (env:Env)(fn:Fn)(first captured:List Operand)(k:Value->Prop):Prop:=
 match evs env first with
 |some fs=>
  match evs env captured with
  |some cs=>k (.func fn fs.toArray cs.toArray)
  |none=>False
 |none=>False
def kR6:Int->List Value->Option Int
 |a,[]=>some a
 |a,.int .i64 b::r=>kR6 (min a b) r
 |_,_=>none
def kR7:Int->List Value->Option Int
 |a,[]=>some a
 |a,.int .i64 b::r=>kR7 (max a b) r
 |_,_=>none
def bX3:Value->List Value
 | .agg cs=>cs.toList
 |v=>[v]
def upd:List Value->Nat->List Value->Option (List Value)
 |cs,0,[]=>some cs
 |[],0,_::_=>none
 |_::r,0,v::vs=>
  match upd r 0 vs with
  |some l=>some (v::l)
  |none=>none
 |[],_+1,_=>none
 |c::r,o+1,vs=>
  match upd r o vs with
  |some l=>some (c::l)
  |none=>none
def sub:List Value->Nat->Nat->Option (List Value)
 |_,0,0=>some []
 |[],0,_+1=>none
 |v::r,0,s+1=>
  match sub r 0 s with
  |some l=>some (v::l)
  |none=>none
 |[],_+1,_=>none
 |_::r,o+1,s=>sub r o s
theorem cQ5:∀(cs:List Value) (o:Nat) (vs cs':List Value),upd cs o vs=some cs'->o+vs.length<=cs.length/\cs'=cs.take o++vs++cs.drop (o+vs.length)
 |cs,0,[],cs',h=>by
  cases cs<;>simp [upd] at h<;>subst h<;>simp
 |[],0,_::_,cs',h=>by simp [upd] at h
 |c::r,0,v::vs,cs',h=>by
  simp only [upd] at h
  cases h1:upd r 0 vs with
  |none=>simp [h1] at h
  |some l=>
   simp only [h1,qK] at h
   subst h
   obtain ⟨h2,h3⟩:=cQ5 r 0 vs l h1
   refine ⟨by simp at h2 ⊢;omega,?_⟩
   simp at h3
   simp [h3]
 |[],_+1,_,cs',h=>by simp [upd] at h
 |c::r,o+1,vs,cs',h=>by
  simp only [upd] at h
  cases h1:upd r o vs with
  |none=>simp [h1] at h
  |some l=>
   simp only [h1,qK] at h
   subst h
   obtain ⟨h2,h3⟩:=cQ5 r o vs l h1
   refine ⟨by simp;omega,?_⟩
   rw [h3,show o+1+vs.length=(o+vs.length)+1 from by omega]
   simp
theorem bP2:∀(cs:List Value) (o s:Nat) (vs:List Value),sub cs o s=some vs->vs.length=s/\∀j v,vs[j]? =some v->cs[o+j]? =some v
 |cs,0,0,vs,h=>by
  cases cs<;>simp [sub] at h<;>subst h<;>simp
 |[],0,_+1,vs,h=>by simp [sub] at h
 |c::r,0,s+1,vs,h=>by
  simp only [sub] at h
  cases h1:sub r 0 s with
  |none=>simp [h1] at h
  |some l=>
   simp only [h1,qK] at h
   subst h
   obtain ⟨h2,h3⟩:=bP2 r 0 s l h1
   refine ⟨by simp [h2],fun j v hj=>?_⟩
   cases j with
   |zero=>simpa using hj
   |succ j=>
    have:=h3 j v (by simpa using hj)
    simpa using this
 |[],_+1,_,vs,h=>by simp [sub] at h
 |c::r,o+1,s,vs,h=>by
  simp only [sub] at h
  obtain ⟨h2,h3⟩:=bP2 r o s vs h
  refine ⟨h2,fun j v hj=>?_⟩
  rw [show o+1+j=(o+j)+1 from by omega]
  simpa using h3 j v hj
def cH9 (L:Lay):List (Nat×TypeId)->Option (List (Nat×Nat))
 |[]=>some []
 |ot::r=>
  match lay L ot.2 with
  |some fi=>
   match cH9 L r with
   |some l=>some ((ot.1,fi.size)::l)
   |none=>none
  |none=>none
def kR3:List (Nat×Nat)->Nat->Option (Nat×Nat)
 |[],_=>none
 |v::_,0=>some v
 |_::r,n+1=>kR3 r n
def gT1 (pl:List (Nat×Nat)):List (Nat×Value)->List Value->Option (List Value)
 |[],cs=>some cs
 |(i,v)::r,cs=>
  match kR3 pl i with
  |some (o,s)=>
   match Nat.beq (dF9 (bX3 v)) s with
   |true=>
    match upd cs o (bX3 v) with
    |some cs'=>gT1 pl r cs'
    |none=>none
   |false=>none
  |none=>none
def evp (env:Env):List (Nat×Operand)->Option (List (Nat×Value))
 |[]=>some []
 |(i,x)::r=>
  match ev env x with
  |some v=>
   match evp env r with
   |some l=>some ((i,v)::l)
   |none=>none
  |none=>none
def fP5 (size:Nat):List (Nat×Value)->List Value->Option (List Value)
 |[],cs=>some cs
 |(i,v)::r,cs=>
  match Nat.beq (dF9 (bX3 v)) size with
  |true=>
   match upd cs (i*size) (bX3 v) with
   |some cs'=>fP5 size r cs'
   |none=>none
  |false=>none
def kD4 (L:Lay)(env:Env)(t:TypeId)(parts:List (Nat×Operand))(k:Value->Prop):Prop:=
 match lay L t with
 |some ti=>
  match ti.td with
  | .struct fs=>
   match evp env parts with
   |some ps=>
    match cH9 L fs with
    |some pl=>
     match gT1 pl ps (bX3 ti.zero) with
     |some cs=>k (.agg cs.toArray)
     |none=>False
    |none=>False
   |none=>False
  | .array _ e=>
   match lay L e with
   |some ei=>
    match evp env parts with
    |some ps=>
     match fP5 ei.size ps (bX3 ti.zero) with
     |some cs=>k (.agg cs.toArray)
     |none=>False
    |none=>False
   |none=>False
  |_=>False
 |none=>False
inductive VSl (p:Option Addr) (size:Nat) (l h c:Int) (k:Option Addr->Nat->Nat->Prop):Prop
 |mk (h1:0<=l) (h2:l<=h) (h3:h<=c)
   (hk:∀q,(l<c->q=p.map (fun a=>a.add (l.toNat*size)))->(l=c->q=p)->k q (h.toNat - l.toNat) (c.toNat - l.toNat))
def dG5 (env:Env)(x:Option Operand)(d:Int):Option Int:=
 match x with
 |none=>some d
 |some o=>
  match ev env o with
  |some (.int _ j)=>some j
  |_=>none
def kB7 (L:Lay)(env:Env)(t:TypeId)(x:Operand)(lo hi:Option Operand)(k:Value->Prop):Prop:=
 match lay L t with
 |some ti=>
  match ti.td with
  | .slice e=>
   match lay L e with
   |some ei=>
    match ev env x with
    |some (.slice p n c)=>
     match dG5 env lo 0 with
     |some l=>
      match dG5 env hi n with
      |some h=>VSl p ei.size l h c fun q n' c'=>k (.slice q n' c')
      |none=>False
     |none=>False
    |_=>False
   |none=>False
  |_=>False
 |none=>False
inductive VSl3 (p:Option Addr) (size:Nat) (l h m c:Int) (k:Option Addr->Nat->Nat->Prop):Prop
 |mk (h4:m<=c) (hs:VSl p size l h m k)
def hJ2 (L:Lay)(env:Env)(t:TypeId)(x:Operand)(lo hi:Option Operand)(mx:Operand)(k:Value->Prop):Prop:=
 match lay L t with
 |some ti=>
  match ti.td with
  | .slice e=>
   match lay L e with
   |some ei=>
    match ev env x with
    |some (.slice p _ c)=>
     match lo with
     |some lo=>
      match hi with
      |some hi=>
       match ev env lo with
       |some (.int _ l)=>
        match ev env hi with
        |some (.int _ h)=>
         match ev env mx with
         |some (.int _ m)=>VSl3 p ei.size l h m c fun q n' c'=>k (.slice q n' c')
         |_=>False
        |_=>False
       |_=>False
      |none=>False
     |none=>False
    |_=>False
   |none=>False
  |_=>False
 |none=>False
def cX7 (L:Lay):List TypeId->Bool
 |[t]=>
  match lay L t with
  |some ti=>
   match ti.td with
   | .slice _=>true
   |_=>false
  |none=>false
 |_=>false
def fJ9 (L:Lay)(env:Env)(b:Builtin)(args:List Operand)(ts:List TypeId)(k:Value->Prop):Prop:=
 match b with
 | .len=>
  match cX7 L ts with
  |true=>
   match evs env args with
   |some [.slice _ n _]=>k (.int .i64 n)
   |_=>False
  |false=>False
 | .cap=>
  match cX7 L ts with
  |true=>
   match evs env args with
   |some [.slice _ _ c]=>k (.int .i64 c)
   |_=>False
  |false=>False
 | .min=>
  match evs env args with
  |some (.int .i64 a::r)=>
   match kR6 a r with
   |some c=>k (.int .i64 c)
   |none=>False
  |_=>False
 | .max=>
  match evs env args with
  |some (.int .i64 a::r)=>
   match kR7 a r with
   |some c=>k (.int .i64 c)
   |none=>False
  |_=>False
 |_=>False
def kD9:TD->Bool
 | .struct _=>true
 | .array _ _=>true
 |_=>false
def lK6 (vs:List Value)(k:Value->Prop):Prop:=
 match vs with
 |[v]=>k v
 |_=>False
def elV:Bool->List Value->(Value->Prop)->Prop
 |true,vs,k=>k (.agg vs.toArray)
 |false,vs,k=>lK6 vs k
inductive VEl (cs:List Value) (n size:Nat) (j:Int) (g:Bool) (k:Value->Prop):Prop
 |mk {vs:List Value} (h1:0<=j) (h2:j<n) (hs:sub cs (j.toNat*size) size=some vs) (hk:elV g vs k)
def mY8 (L:Lay)(env:Env)(t:TypeId)(x i:Operand)(k:Value->Prop):Prop:=
 match ev env i with
 |some (.int _ j)=>
  match lay L t with
  |some ti=>
   match ti.td with
   | .array n e=>
    match lay L e with
    |some ei=>
     match ev env x with
     |some (.agg cs)=>VEl cs.toList n ei.size j (kD9 ei.td) k
     |_=>False
    |none=>False
   |_=>False
  |none=>False
 |_=>False
def hP6 (L:Lay)(env:Env)(t:TypeId)(x:Operand)(f:Nat)(k:Value->Prop):Prop:=
 match lay L t with
 |some ti=>
  match ti.td with
  | .struct fs=>
   match fs[f]? with
   |some ot=>
    match lay L ot.2 with
    |some fi=>
     match ev env x with
     |some (.agg cs)=>
      match sub cs.toList ot.1 fi.size with
      |some vs=>elV (kD9 fi.td) vs k
      |none=>False
     |_=>False
    |none=>False
   |none=>False
  |_=>False
 |none=>False
def gM6 (C:Cx)(op:Op)(env:Env)(k:Value->Prop):Prop:=
 match op with
 | .move x=>lZ2 env x k
 | .assign x=>lZ2 env x k
 | .pick c a b=>lK3 env c a b k
 | .fieldAddr s x f=>kP8 C.L env s x f k
 | .indexAddr t x i=>kP5 C.L env t x i k
 | .nilCheck x=>mY7 env x k
 | .binOp op t x y _=>kD6 C.L C.eqs env op t x y k
 | .unOp op _ x=>lJ1 env op x k
 | .convert s d x=>lM5 C.L env s d x k
 | .extract x i=>gF9 env x i k
 | .makeFunc fn f c=>lM0 env fn f.toList c.toList k
 | .build t parts=>kD4 C.L env t parts.toList k
 | .slice t x lo hi none=>kB7 C.L env t x lo hi k
 | .slice t x lo hi (some mx)=>hJ2 C.L env t x lo hi mx k
 | .index t x i=>mY8 C.L env t x i k
 | .field t x f=>hP6 C.L env t x f k
 | .call {callee:=.builtin b,args,argTypes}=>fJ9 C.L env b args.toList argTypes.toList k
 |_=>False
end Go.Vx
end
section
set_option linter.unusedSimpArgs false
set_option linter.unusedVariables false
namespace Go.Vx
open Go Go.RowKit
section
variable {P : Program} {L : Lay} {env : Env} {a : Act} {n : Nat} {k : Value -> Prop}
theorem dZ8 {x:Operand}(h:lZ2 env x k):∃v,ev env x=some v/\k v:=by
 unfold lZ2 at h
 cases hx:ev env x with
 |none=>simp [hx] at h
 |some v=>simp only [hx] at h;exact ⟨v,rfl,h⟩
theorem dP0 {b:Bool}{A B:Prop}(h:dM7 b A B):if b then A else B:=by
 cases b<;>simpa [dM7] using h
theorem dD8 (hL:LayOk P L){s:TypeId}{f:Nat}{b off:Nat}{ti fi:TI}{fs:List (Nat×TypeId)}{ot:Nat×TypeId}
  (h1:lay L s=some ti) (h2:ti.td=.struct fs) (h3:fs[f]? =some ot) (h4:lay L ot.2=some fi) (h5:Nat.beq fi.size 0=false) (w:World):
  (Instr.fieldAt s (.pointer (some ⟨b,off,none⟩)) f).run P w=.ok (.pointer (some ⟨b,off+ot.1,none⟩)) w:=by
 obtain ⟨fields,hu,hm⟩:=(hL.at h1).struct h2
 obtain ⟨i,hi,hi1,_,_⟩:=(hL.at h4).info'
 rw [<-hm] at h3
 rw [qj] at h3
 cases hf:fields.toList[f]? with
 |none=>simp [hf] at h3
 |some fd=>
  simp only [hf,qV,qK] at h3
  subst h3
  have hf':fields[f]? =some fd:=by simpa using hf
  have hne:i.size≠0:=by rw [hi1];exact Nat.ne_of_beq_eq_false h5
  have hadd:(⟨b,off,none⟩:Addr).add fd.offset=⟨b,off+fd.offset,none⟩:=by unfold Addr.add;split<;>simp_all
  simp [Instr.fieldAt,run_underlying hu,hf',Instr.sureAddr,fieldPlace,sizeOf,typeInfo,hi,hne,hadd]
theorem cZ8 (b off m:Nat):(⟨b,off,none⟩:Addr).add m=⟨b,off+m,none⟩:=by unfold Addr.add;split<;>simp_all
theorem kV5 {op:BinOp}{kd:IntKind}{x y:Int}{t:TypeId}(h:mJ2 op kd x y k):∃v,k v/\∀w,(binOp op t (.int kd x) (.int kd y)).run P w=.ok v w:=by
 cases op<;>simp only [mJ2] at h
 case add=>exact ⟨_,h.use,fun w=>by simp [binOp,Op.intArith]⟩
 case sub=>exact ⟨_,h.use,fun w=>by simp [binOp,Op.intArith]⟩
 case mul=>exact ⟨_,h.use,fun w=>by simp [binOp,Op.intArith]⟩
 case quo=>
  cases h with
  |mk hb h=>exact ⟨_,h.use,fun w=>by simp [binOp,Op.intDiv,hb]⟩
 case rem=>
  cases h with
  |mk hb h=>exact ⟨_,h,fun w=>by simp [binOp,Op.intDiv,hb]⟩
 case eql=>exact ⟨_,h.use (x==y) oU,fun w=>by simp [binOp,Op.intCmp]⟩
 case neq=>exact ⟨_,h.use (x !=y) oU,fun w=>by simp [binOp,Op.intCmp]⟩
 case lss=>exact ⟨_,h.use (decide (x<y)) oU,fun w=>by simp [binOp,Op.intCmp]⟩
 case leq=>exact ⟨_,h.use (decide (x<=y)) oU,fun w=>by simp [binOp,Op.intCmp]⟩
 case gtr=>exact ⟨_,h.use (decide (x>y)) oU,fun w=>by simp [binOp,Op.intCmp]⟩
 case geq=>exact ⟨_,h.use (decide (x≥y)) oU,fun w=>by simp [binOp,Op.intCmp]⟩
 case shl=>
  cases h with
  |mk hb hk=>exact ⟨_,hk,fun w=>by simp [binOp,Op.shift,Int.not_lt.2 hb]⟩
 case shr=>
  cases h with
  |mk hb hk=>exact ⟨_,hk,fun w=>by simp [binOp,Op.shift,Int.not_lt.2 hb]⟩
 case and=>
  cases h with
  |mk hk=>exact ⟨_,hk,fun w=>by simp [binOp,Op.intBits,cP5]⟩
 case or=>
  cases h with
  |mk hk=>exact ⟨_,hk,fun w=>by simp [binOp,Op.intBits,cP5]⟩
 case xor=>
  cases h with
  |mk hk=>exact ⟨_,hk,fun w=>by simp [binOp,Op.intBits,cP5]⟩
 case andNot=>
  cases h with
  |mk hk=>exact ⟨_,hk,fun w=>by simp [binOp,Op.intBits,cP5]⟩
theorem kN8 {op:BinOp}{ka kb:IntKind}{x y:Int}{t:TypeId}(h:shE op ka x y k):∃v,k v/\(∀w,(binOp op t (.int ka x) (.int kb y)).run P w=.ok v w)/\(op=.shl\/op=.shr):=by
 cases op<;>simp only [shE] at h
 case shl=>
  cases h with
  |mk hb hk=>exact ⟨_,hk,fun w=>by simp [binOp,Op.shift,Int.not_lt.2 hb],.inl rfl⟩
 case shr=>
  cases h with
  |mk hb hk=>exact ⟨_,hk,fun w=>by simp [binOp,Op.shift,Int.not_lt.2 hb],.inr rfl⟩
theorem gY8:∀(r:List Value) (x c:Int) (w:World),kR6 x r=some c->(r.foldlM Builtin.min2 (.int .i64 x)).run P w=.ok (.int .i64 c) w
 |[],x,c,w,h=>by simp [kR6] at h;simp [h]
 |v::r,x,c,w,h=>by
  cases v with
  |int kd b=>
   cases kd<;>simp only [kR6] at h<;>try (cases h;done)
   have:=gY8 r (min x b) c w h
   simp only [List.foldlM_cons,Builtin.min2,Sem.run_bind,Sem.run_pure,Result.andThen_ok]
   rw [show (if b<x then b else x)=min x b from by rw [Int.min_def];split<;>split<;>omega]
   exact this
  |_=>simp [kR6] at h
theorem gG3:∀(r:List Value) (x c:Int) (w:World),kR7 x r=some c->(r.foldlM Builtin.max2 (.int .i64 x)).run P w=.ok (.int .i64 c) w
 |[],x,c,w,h=>by simp [kR7] at h;simp [h]
 |v::r,x,c,w,h=>by
  cases v with
  |int kd b=>
   cases kd<;>simp only [kR7] at h<;>try (cases h;done)
   have:=gG3 r (max x b) c w h
   simp only [List.foldlM_cons,Builtin.max2,Sem.run_bind,Sem.run_pure,Result.andThen_ok]
   rw [show (if b>x then b else x)=max x b from by rw [Int.max_def];split<;>split<;>omega]
   exact this
  |_=>simp [kR7] at h
theorem bX8 (v:Value):v.cells.toList=bX3 v:=by cases v<;>simp [Value.cells,bX3]
theorem gF8 (vs:List Value):∀(j off:Nat) (cs:Array Value),off+j+vs.length<=cs.size->
  (vs.zipIdx j).foldl (fun cs (x:Value×Nat)=>cs.setIfInBounds (off+x.2) x.1) cs=(cs.toList.take (off+j)++vs++cs.toList.drop (off+j+vs.length)).toArray:=by
 induction vs with
 |nil=>intro j off cs h;simp
 |cons v vs ih=>
  intro j off cs h
  simp only [qR] at h
  have:=ih (j+1) off (cs.setIfInBounds (off+j) v) (by simp;omega)
  simp only [List.zipIdx_cons,Qp]
  rw [this]
  apply congrArg List.toArray
  have hlt:off+j<cs.toList.length:=by simp;omega
  rw [Array.toList_setIfInBounds]
  apply qp
  intro q
  simp only [List.getElem?_append,qh,QH,Qt,Qy,qw,qR,qO,List.getElem?_cons]
  rcases Nat.lt_trichotomy q (off+j) with hq|hq|hq
  ·have e1:q<off+(j+1):=by omega
   have e2:¬off+j=q:=by omega
   have e3:q<min (off+(j+1)) cs.toList.length:=by omega
   have e4:q<min (off+j) cs.toList.length:=by omega
   have e5:q<off+(j+1)+vs.length:=by omega
   have e6:q<off+j+(vs.length+1):=by omega
   have m1:min (off+(j+1)) cs.toList.length=off+j+1:=by omega
   have m2:min (off+j) cs.toList.length=off+j:=by omega
   simp only [m1,m2]
   simp [e1,e2,hq,e6,show q<off+j+1 from by omega,show q<off+j+1+vs.length from by omega]
  ·subst hq
   have m1:min (off+(j+1)) cs.toList.length=off+j+1:=by omega
   have m2:min (off+j) cs.toList.length=off+j:=by omega
   simp only [m1,m2]
   simp [hlt,show off+j<off+j+1 from by omega,show off+j<off+j+1+vs.length from by omega,show off+j<off+(j+1) from by omega]
   simpa using hlt
  ·have m1:min (off+(j+1)) cs.toList.length=off+j+1:=by omega
   have m2:min (off+j) cs.toList.length=off+j:=by omega
   simp only [m1,m2]
   have e3:¬q<off+j+1:=by omega
   have e4:¬q<off+j:=by omega
   by_cases h7:q<off+j+1+vs.length
   ·have e8:q<off+j+(vs.length+1):=by omega
    simp [h7,e8,e3,e4,show q - (off+j)=(q - (off+j+1))+1 from by omega]
   ·have e8:¬q<off+j+(vs.length+1):=by omega
    simp only [h7,e8,if_false]
    have e9:¬(off+j=off+(j+1)+vs.length+(q - (off+j+1+vs.length))):=by omega
    simp only [e9,if_false]
    congr 1
    omega
theorem hY1:∀(l:List (Nat×Nat)) (n:Nat),kR3 l n=l[n]?
 |[],_=>by simp [kR3]
 |v::r,0=>by simp [kR3]
 |v::r,n+1=>by simp [kR3,hY1 r n]
theorem hP5 {pl:List (Nat×Nat)}:
  ∀(ps:List (Nat×Value)) (cs:List Value) (cs':List Value),gT1 pl ps cs=some cs'->Instr.fill (pl.toArray[·]?) cs.toArray ps=some cs'.toArray
 |[],cs,cs',h=>by simp [gT1] at h;simp [Instr.fill,h]
 |(i,v)::r,cs,cs',h=>by
  simp only [gT1] at h
  cases h1:kR3 pl i with
  |none=>simp [h1] at h
  |some os=>
   obtain ⟨os1,os2⟩:=os
   simp only [h1] at h
   cases h3:Nat.beq (dF9 (bX3 v)) os2 with
   |false=>simp [h3] at h
   |true=>
    simp only [h3] at h
    cases h4:upd cs os1 (bX3 v) with
    |none=>simp [h4] at h
    |some c2=>
     simp only [h4] at h
     have hsz:v.cells.size=os2:=by
      have:=qE h3
      rw [bM8,<-bX8] at this
      simpa using this
     obtain ⟨h5,h6⟩:=cQ5 _ _ _ _ h4
     have hlen:(bX3 v).length=v.cells.size:=by rw [<-bX8];simp
     rw [hY1] at h1
     have hpl':pl.toArray[i]? =some (os1,os2):=by simpa using h1
     simp only [Instr.fill,hpl']
     have hl2:(bX3 v).length=os2:=hlen.trans hsz
     rw [jk (by simp [hsz];omega)]
     have hfo:=gF8 (bX3 v) 0 os1 cs.toArray (by simpa using h5)
     have hv:v.cells=(bX3 v).toArray:=by rw [<-bX8]
     have:(v.cells.zipIdx.foldl (fun cs (x:Value×Nat)=>cs.setIfInBounds (os1+x.2) x.1) cs.toArray)=c2.toArray:=by
      rw [hv,<-Array.foldl_toList,Array.toList_zipIdx,hfo,h6];simp
     have ih:=hP5 r c2 cs' h
     rw [<-this] at ih
     exact ih
theorem cR7 (size:Nat):∀(ps:List (Nat×Value)) (cs cs':List Value),fP5 size ps cs=some cs'->
  Instr.fill (fun i=>some (i*size,size)) cs.toArray ps=some cs'.toArray/\cs'.length=cs.length
 |[],cs,cs',h=>by simp [fP5] at h;simp [Instr.fill,h]
 |(i,v)::r,cs,cs',h=>by
  simp only [fP5] at h
  cases h3:Nat.beq (dF9 (bX3 v)) size with
  |false=>simp [h3] at h
  |true=>
   simp only [h3] at h
   cases h4:upd cs (i*size) (bX3 v) with
   |none=>simp [h4] at h
   |some c2=>
    simp only [h4] at h
    have hsz:v.cells.size=size:=by
     have:=qE h3
     rw [bM8,<-bX8] at this
     simpa using this
    obtain ⟨h5,h6⟩:=cQ5 _ _ _ _ h4
    have hlen:(bX3 v).length=v.cells.size:=by rw [<-bX8];simp
    have hl2:(bX3 v).length=size:=hlen.trans hsz
    have ih:=cR7 size r c2 cs' h
    have hc2:c2.length=cs.length:=by rw [h6];simp;omega
    refine ⟨?_,ih.2.trans hc2⟩
    simp only [Instr.fill]
    rw [jk (by simp [hsz];omega)]
    have hfo:=gF8 (bX3 v) 0 (i*size) cs.toArray (by simpa using h5)
    have hv:v.cells=(bX3 v).toArray:=by rw [<-bX8]
    have:(v.cells.zipIdx.foldl (fun cs (x:Value×Nat)=>cs.setIfInBounds (i*size+x.2) x.1) cs.toArray)=c2.toArray:=by
     rw [hv,<-Array.foldl_toList,Array.toList_zipIdx,hfo,h6];simp
    have ih1:=ih.1
    rw [<-this] at ih1
    exact ih1
theorem cL7 {P:Program}{L:Lay}(hL:LayOk P L):∀{fields:List Field} {pl:List (Nat×Nat)},cH9 L (fields.map fun f=>(f.offset,f.type))=some pl->
  fields.mapM (fun f=>(P.info? f.type).map fun i=>(f.offset,i.size))=some pl
 |[],pl,h=>by simp [cH9] at h;simp [h]
 |f::r,pl,h=>by
  simp only [qI,cH9] at h
  cases h1:lay L f.type with
  |none=>simp [h1] at h
  |some fi=>
   simp only [h1] at h
   cases h2:cH9 L (r.map fun f=>(f.offset,f.type)) with
   |none=>simp [h2] at h
   |some l=>
    simp only [h2,qK] at h
    subst h
    obtain ⟨i,hi,hi1,_,_⟩:=(hL.at h1).info'
    simp [hi,cL7 hL h2,hi1]
theorem dJ9 {env:Env}{a:Act}(hr:Rep n env a):∀{ps:List (Nat×Operand)} {vs:List (Nat×Value)},evp env ps=some vs->ps.map (fun p=>(p.1,a.eval p.2))=vs
 |[],vs,h=>by simp [evp] at h;simp [h]
 |(i,x)::r,vs,h=>by
  simp only [evp] at h
  cases h1:ev env x with
  |none=>simp [h1] at h
  |some v=>
   simp only [h1] at h
   cases h2:evp env r with
   |none=>simp [h2] at h
   |some l=>
    simp only [h2,qK] at h
    subst h
    simp [hr.eval h1,dJ9 hr h2]
theorem dT8 {P:Program}{L:Lay}(hL:LayOk P L)(d:Nat)(w:World):∀(fields:List Field) (j:Nat) (xs ys:Array Value) (p:Prop),
  cW3 L (fields.map fun f => (f.offset, f.type)) j = true → (∀ f ∈ fields, f.name ≠ "_") → fields.length + j = xs.toList.length →
  cW2 (xs.toList.drop j) (ys.toList.drop j)=some p->
  ∃b:Bool,(b=true<->p)/\(Op.eqFields (d+1) xs ys fields).run P w=.ok b w
 |[],j,xs,ys,p,_,_,hl,he=>by
  rw [Qi (by simp at hl ⊢;omega)] at he
  cases hy:ys.toList.drop j with
  |nil=>simp [hy,cW2] at he;exact ⟨true,by simp [he],by simp [Op.eqFields]⟩
  |cons y r=>simp [hy,cW2] at he
 |f::fs,j,xs,ys,p,hf,hn,hl,he=>by
  simp only [qI,cW3] at hf
  cases h1:Nat.beq f.offset j with
  |false=>simp [h1] at hf
  |true=>
   simp only [h1] at hf
   have hoff:=qE h1
   cases h2:lay L f.type with
   |none=>simp [h2] at hf
   |some ti=>
    simp only [h2] at hf
    cases h3:ti.td with
    |int kd=>
     simp only [h3] at hf
     cases kd<;>simp only [] at hf<;>try (cases hf;done)
     have hu:=(hL.at h2).int h3
     cases hx:xs.toList.drop j with
     |nil=>exfalso;have:=congrArg List.length hx;simp at this hl;omega
     |cons x xr=>
      cases hy:ys.toList.drop j with
      |nil=>rw [hx,hy] at he;cases x<;>simp [cW2] at he
      |cons y yr=>
       rw [hx,hy] at he
       have hx1:xs[j]? =some x:=by
        have:(xs.toList.drop j)[0]? =some x:=by rw [hx];rfl
        simpa using this
       have hy1:ys[j]? =some y:=by
        have:(ys.toList.drop j)[0]? =some y:=by rw [hy];rfl
        simpa using this
       have hxr:xs.toList.drop (j+1)=xr:=by rw [<-List.drop_drop,hx];rfl
       have hyr:ys.toList.drop (j+1)=yr:=by rw [<-List.drop_drop,hy];rfl
       cases x with
       |int kx a=>
        cases y with
        |int ky b=>
         cases kx<;>cases ky<;>simp only [cW2] at he<;>try (cases he;done)
         cases he2:cW2 xr yr with
         |none=>simp [he2] at he
         |some q=>
          simp only [he2,qK] at he
          subst he
          obtain ⟨r,hr1,hr2⟩:=dT8 hL d w fs (j+1) xs ys q hf (fun g hg=>hn g (by simp [hg])) (by simp at hl ⊢;omega) (by rw [hxr,hyr];exact he2)
          have hpx:(part f.type xs f.offset).run P w=.ok (.int .i64 a) w:=by simp [part,isAgg,run_underlying hu,hoff,hx1]
          have hpy:(part f.type ys f.offset).run P w=.ok (.int .i64 b) w:=by simp [part,isAgg,run_underlying hu,hoff,hy1]
          have hne : f.name ≠ "_" := hn f oU
          have heq:=run_equalIn_int (P:=P) w d f.type .i64 .i64 a b hu
          by_cases hab:a=b
          ·subst hab
           refine ⟨r,by simp [hr1],?_⟩
           simp [Op.eqFields,hne,hpx,hpy,heq,hr2]
          ·refine ⟨false,by simp [hab],?_⟩
           have:(a==b)=false:=by simp [hab]
           simp [Op.eqFields,hne,hpx,hpy,heq,this]
        |_=>simp [cW2] at he
       |_=>simp [cW2] at he
    |_=>simp [h3] at hf
theorem gB0 {op:BinOp}{p:Prop}(h:lC6 op p k)(b:Bool)(hb:b=true<->p):(op=.eql/\k (.bool b))\/(op=.neq/\k (.bool (!b))):=by
 cases op<;>simp only [lC6] at h
 ·exact .inl ⟨rfl,h.use b hb⟩
 ·exact .inr ⟨rfl,h.use (!b) (by rw [<-hb];simp)⟩
theorem cR3 {op:BinOp}{b:Bool}(h:fB7 op b k):(op=.eql/\k (.bool b))\/(op=.neq/\k (.bool (!b))):=by
 cases op<;>simp only [fB7] at h
 ·exact .inl ⟨rfl,h⟩
 ·exact .inr ⟨rfl,h⟩
theorem cD9 {P:Program}(w:World){t e:TypeId}(p:Option Addr)(n c n' c':Nat)(ht:P.underlying t=some (.slice e)):
  (Op.equal t (.slice p n c) (.slice none n' c')).run P w=.ok p.isNone w:=by
 have h:∀d:Nat,(Op.equalIn (d+1) t (.slice p n c) (.slice none n' c')).run P w=.ok p.isNone w:=fun d=>by
  cases p<;>simp [Op.equalIn,run_underlying ht]
 simpa [Op.equal,Op.maxDepth] using h 9999
theorem dW9 {P:Program}(w:World){t q e:TypeId}(p:Option Nat)(ht:P.underlying t=some (.map q e)):
  (Op.equal t (.map p) (.map none)).run P w=.ok p.isNone w:=by
 have h:∀d:Nat,(Op.equalIn (d+1) t (.map p) (.map none)).run P w=.ok p.isNone w:=fun d=>by
  cases p<;>simp [Op.equalIn,run_underlying ht]
 simpa [Op.equal,Op.maxDepth] using h 9999
theorem cK7 {P:Program}(w:World){t e:TypeId}(p:Option Addr)(ht:P.underlying t=some (.pointer e)):
  (Op.equal t (.pointer p) (.pointer none)).run P w=.ok p.isNone w:=by
 have h:∀d:Nat,(Op.equalIn (d+1) t (.pointer p) (.pointer none)).run P w=.ok p.isNone w:=fun d=>by
  cases p<;>simp [Op.equalIn,run_underlying ht]
 simpa [Op.equal,Op.maxDepth] using h 9999
theorem kH0 {C:Cx}{op:BinOp}{t:TypeId}{vx vy:Value}(x y:Operand)(h:mK9 C.L C.eqs op t vx vy k):
  ∃v,k v/\∀w,(do eqGuard op t x y vx vy;binOp op t vx vy:Sem Value).run C.P w=.ok v w:=by
 unfold mK9 at h
 split at h
 ·rename_i ka a kb b
  cases hk:decide (ka=kb) with
  |false=>
   simp only [hk] at h
   obtain ⟨v,hv,hrun,ho⟩:=kN8 (t:=t) (P:=C.P) (kb:=kb) h
   refine ⟨v,hv,fun w=>?_⟩
   rcases ho with rfl|rfl<;>simp [eqGuard,hrun w]
  |true=>
   have:=of_decide_eq_true hk
   subst this
   simp only [hk] at h
   obtain ⟨v,hv,hrun⟩:=kV5 (t:=t) (P:=C.P) h
   refine ⟨v,hv,fun w=>?_⟩
   cases op<;>simp [eqGuard,hrun w]
 ·rename_i a b
  cases h1:lay C.L t with
  |none=>simp [h1] at h
  |some ti=>
   simp only [h1] at h
   cases h2:ti.td<;>simp only [h2] at h<;>try (exact h.elim)
   have hu:=(C.okL.at h1).bool h2
   have heq:∀w,(Op.equal t (.bool a) (.bool b)).run C.P w=.ok (a==b) w:=fun w=>by
    have hh:∀d:Nat,(Op.equalIn (d+1) t (.bool a) (.bool b)).run C.P w=.ok (a==b) w:=fun d=>by simp [Op.equalIn,run_underlying hu]
    simpa [Op.equal,Op.maxDepth] using hh 9999
   rcases gB0 h (a==b) oU with ⟨rfl,h3⟩|⟨rfl,h3⟩
   ·exact ⟨_,h3,fun w=>by simp [eqGuard,binOp,heq w]⟩
   ·exact ⟨_,h3,fun w=>by simp [eqGuard,binOp,heq w]⟩
 ·rename_i xs ys
  cases h1:lay C.L t with
  |none=>simp [h1] at h
  |some ti=>
   simp only [h1] at h
   cases h2:ti.td<;>simp only [h2] at h<;>try (exact h.elim)
   rename_i fs
   cases h3:cW3 C.L fs 0 with
   |false=>simp [h3] at h
   |true=>
    simp only [h3] at h
    cases h4:cW2 xs.toList ys.toList with
    |none=>simp [h4] at h
    |some p=>
     simp only [h4] at h
     cases h5:Nat.beq fs.length (dF9 xs.toList) with
     |false=>simp [h5] at h
     |true=>
      simp only [h5] at h
      cases h6:fL6 C.eqs t with
      |false=>simp [h6] at h
      |true=>
       simp only [h6] at h
       have he:=C.okE t (cX4.1 h6)
       simp only [mK4,Qd,Bool.not_eq_true',List.all_eq_true,bne_iff_ne,ne_eq] at he
       obtain ⟨⟨e1,e2⟩,e3⟩:=he
       obtain ⟨fields,hu,hm⟩:=(C.okL.at h1).struct h2
       have hfo:C.P.fieldsOf t=fields:=by simp [Program.fieldsOf,hu]
       have hlen:fields.toList.length+0=xs.toList.length:=by
        have:=qE h5
        rw [bM8,<-hm] at this
        simpa using this
       have hrun:∀w,∃b:Bool,(b=true<->p)/\(Op.eqFields 9999 xs ys fields.toList).run C.P w=.ok b w:=fun w=>
        dT8 C.okL 9998 w fields.toList 0 xs ys p (by rw [hm];exact h3) (fun f hf=>e3 f (by rw [hfo];exact hf)) hlen (by simpa using h4)
       have hb:∃b:Bool,b=true<->p:=⟨_,(hrun default).choose_spec.1⟩
       obtain ⟨b,hb⟩:=hb
       have hrun':∀w,(Op.equalIn 10000 t (.agg xs) (.agg ys)).run C.P w=.ok b w:=fun w=>by
        rw [run_equalIn_struct w 9999 t xs ys (by rw [hfo];exact hu) e2,hfo]
        obtain ⟨b',hb',hr⟩:=hrun w
        rw [hr]
        congr 1
        cases b<;>cases b'<;>simp_all
       rcases gB0 h b hb with ⟨rfl,h7⟩|⟨rfl,h7⟩
       ·exact ⟨_,h7,fun w=>by rw [Sem.run_bind,run_eqGuard_agg w _ t x y xs ys e1,Result.andThen_ok,run_eql_struct,hrun'];rfl⟩
       ·exact ⟨_,h7,fun w=>by rw [Sem.run_bind,run_eqGuard_agg w _ t x y xs ys e1,Result.andThen_ok,run_neq_struct,hrun'];rfl⟩
 ·rename_i p n c n' c'
  cases h1:lay C.L t with
  |none=>simp [h1] at h
  |some ti=>
   simp only [h1] at h
   cases h2:ti.td<;>simp only [h2] at h<;>try (exact h.elim)
   have hu:=(C.okL.at h1).slice h2
   rcases cR3 h with ⟨rfl,h3⟩|⟨rfl,h3⟩
   ·exact ⟨_,h3,fun w=>by simp [eqGuard,binOp,cD9 w p n c n' c' hu]⟩
   ·exact ⟨_,h3,fun w=>by simp [eqGuard,binOp,cD9 w p n c n' c' hu]⟩
 ·rename_i p
  cases h1:lay C.L t with
  |none=>simp [h1] at h
  |some ti=>
   simp only [h1] at h
   cases h2:ti.td<;>simp only [h2] at h<;>try (exact h.elim)
   have hu:=(C.okL.at h1).map h2
   rcases cR3 h with ⟨rfl,h3⟩|⟨rfl,h3⟩
   ·exact ⟨_,h3,fun w=>by simp [eqGuard,binOp,dW9 w p hu]⟩
   ·exact ⟨_,h3,fun w=>by simp [eqGuard,binOp,dW9 w p hu]⟩
 ·rename_i p
  cases h1:lay C.L t with
  |none=>simp [h1] at h
  |some ti=>
   simp only [h1] at h
   cases h2:ti.td<;>simp only [h2] at h<;>try (exact h.elim)
   obtain ⟨e,hu⟩:=(C.okL.at h1).pointer h2
   rcases cR3 h with ⟨rfl,h3⟩|⟨rfl,h3⟩
   ·exact ⟨_,h3,fun w=>by simp [eqGuard,binOp,cK7 w p hu]⟩
   ·exact ⟨_,h3,fun w=>by simp [eqGuard,binOp,cK7 w p hu]⟩
 ·exact h.elim
theorem bV6 {env:Env}{a:Act}(hr:Rep n env a){l:Array Operand}{vs:List Value}(h:evs env l.toList=some vs):l.map a.eval=vs.toArray:=by
 have:=hr.evals h
 apply QQ.1
 simpa using this
theorem gM0 {P:Program}{t e:TypeId}(ht:P.underlying t=some (.slice e)){i:TypeInfo}(hi:P.info? e=some i)
  (p:Option Addr) (len cap:Nat) (kl kh:Option IntKind) (l h:Int) (vl vh:Option Value)
  (hvl:(vl=none/\l=0)\/∃k,vl=some (.int k l)) (hvh:(vh=none/\h=len)\/∃k,vh=some (.int k h))
  (h1:0<=l) (h2:l<=h) (h3:h<=cap) (w:World):
  (Instr.sliceAt t (.slice p len cap) vl vh none).run P w=
   .ok (.slice (if cap=l.toNat then p else p.map (·.add (l.toNat*i.size))) (h.toNat - l.toNat) (cap - l.toNat)) w:=by
 have e1:∀(k:IntKind) (c:BoundsCode),(Instr.sliceBound (.int k h) cap c).run P w=.ok h.toNat w:=fun k c=>by
  simp [Instr.sliceBound,asIntOf,show 0<=h from by omega,h3]
 have e2:∀(k:IntKind) (c:BoundsCode),(Instr.sliceBound (.int k l) h.toNat c).run P w=.ok l.toNat w:=fun k c=>by
  have h9:l<=(h.toNat:Int):=by omega
  simp [Instr.sliceBound,asIntOf,h1,h9, -Int.ofNat_toNat]
 rcases hvl with ⟨rfl,rfl⟩|⟨kl,rfl⟩<;>rcases hvh with ⟨rfl,rfl⟩|⟨kh,rfl⟩
 ·simp [Instr.sliceAt,Instr.slice,Instr.sliceBounds,run_underlying ht,sizeOf,typeInfo,hi]
 ·simp [Instr.sliceAt,Instr.slice,Instr.sliceBounds,run_underlying ht,sizeOf,typeInfo,hi,e1]
 ·have e3:=fun c=>e2 kl c
  simp only [jf] at e3
  simp [Instr.sliceAt,Instr.slice,Instr.sliceBounds,run_underlying ht,sizeOf,typeInfo,hi,e3]
 ·simp [Instr.sliceAt,Instr.slice,Instr.sliceBounds,run_underlying ht,sizeOf,typeInfo,hi,e1,e2]
theorem fR1 {P:Program}{t e:TypeId}(ht:P.underlying t=some (.slice e)){i:TypeInfo}(hi:P.info? e=some i)
  (p:Option Addr) (len cap:Nat) (kl kh km:IntKind) (l h m:Int)
  (h1:0<=l) (h2:l<=h) (h3:h<=m) (h4:m<=cap) (w:World):
  (Instr.sliceAt t (.slice p len cap) (some (.int kl l)) (some (.int kh h)) (some (.int km m))).run P w=
   .ok (.slice (if m.toNat=l.toNat then p else p.map (·.add (l.toNat*i.size))) (h.toNat - l.toNat) (m.toNat - l.toNat)) w:=by
 have e0:∀(c:BoundsCode),(Instr.sliceBound (.int km m) cap c).run P w=.ok m.toNat w:=fun c=>by
  simp [Instr.sliceBound,asIntOf,show 0<=m from by omega,h4]
 have e1:∀(c:BoundsCode),(Instr.sliceBound (.int kh h) m.toNat c).run P w=.ok h.toNat w:=fun c=>by
  have h9:h<=(m.toNat:Int):=by omega
  simp [Instr.sliceBound,asIntOf,show 0<=h from by omega,h9, -Int.ofNat_toNat]
 have e2:∀(c:BoundsCode),(Instr.sliceBound (.int kl l) h.toNat c).run P w=.ok l.toNat w:=fun c=>by
  have h9:l<=(h.toNat:Int):=by omega
  simp [Instr.sliceBound,asIntOf,h1,h9, -Int.ofNat_toNat]
 simp [Instr.sliceAt,Instr.slice,Instr.sliceBounds,run_underlying ht,sizeOf,typeInfo,hi,e0,e1,e2]
theorem dC6 {env:Env}{a:Act}(hr:Rep n env a){x:Option Operand}{d j:Int}(h:dG5 env x d=some j):
  (x.map a.eval=none/\j=d)\/∃k,x.map a.eval=some (.int k j):=by
 cases x with
 |none=>simp [dG5] at h;exact .inl ⟨rfl,h.symm⟩
 |some o=>
  simp only [dG5] at h
  cases ho:ev env o with
  |none=>simp [ho] at h
  |some v=>
   cases v<;>simp [ho] at h
   subst h
   exact .inr ⟨_,by rw [qV,hr.eval ho]⟩
theorem cG8 {P:Program}{t:TypeId}{ti:TI}(h:ti.ok P t)(w:World):(isAgg t).run P w=.ok (kD9 ti.td) w:=by
 obtain ⟨d,hu,hs⟩:=h.under
 cases d<;>simp [isAgg,run_underlying hu,<-hs,bR8,kD9]
theorem kB2 {cs vs:List Value}{o s:Nat}(h:sub cs o s=some vs):vs=(cs.drop o).take s:=by
 obtain ⟨h1,h2⟩:=bP2 _ _ _ _ h
 apply qp
 intro j
 rw [Qt,Qy]
 by_cases hj:j<s
 ·rw [jw hj,qq qZ,h2 j _ (qq qZ)]
 ·rw [jk hj,qf qZ]
theorem cM6 {C:Cx}{env:Env}{a:Act}{o:Oper}(hr:Rep n env a)(h:gM6 C o.op env k):
  ∃v,k v/\∀w,(execOp a.eval o).run C.P w=.ok (.value v) w:=by
 obtain ⟨dst,op,type,pos,after,guard⟩:=o
 simp only at h
 unfold gM6 at h
 split at h
 ·obtain ⟨v,h1,h2⟩:=dZ8 h
  exact ⟨v,h2,fun w=>by simp [execOp,hr.eval h1]⟩
 ·obtain ⟨v,h1,h2⟩:=dZ8 h
  exact ⟨v,h2,fun w=>by simp [execOp,hr.eval h1]⟩
 ·rename_i c x y
  unfold lK3 at h
  cases h1:ev env c with
  |none=>simp [h1] at h
  |some v=>
   cases v<;>simp only [h1] at h<;>try (exact h.elim)
   rename_i t
   have:=dP0 h
   cases t
   ·obtain ⟨v,h2,h3⟩:=dZ8 (by simpa using this)
    exact ⟨v,h3,fun w=>by simp [execOp,hr.eval h1,hr.eval h2,asBool]⟩
   ·obtain ⟨v,h2,h3⟩:=dZ8 (by simpa using this)
    exact ⟨v,h3,fun w=>by simp [execOp,hr.eval h1,hr.eval h2,asBool]⟩
 ·rename_i s x f
  unfold kP8 at h
  split at h
  ·rename_i b off h1
   cases h2:lay C.L s with
   |none=>simp [h2] at h
   |some ti=>
    simp only [h2] at h
    cases h3:ti.td<;>simp only [h3] at h<;>try (exact h.elim)
    rename_i fs
    cases h4:fs[f]? with
    |none=>simp [h4] at h
    |some ot=>
     obtain ⟨oo,oty⟩:=ot
     simp only [h4] at h
     cases h5:lay C.L oty with
     |none=>simp [h5] at h
     |some fi=>
      simp only [h5] at h
      cases h6:Nat.beq fi.size 0 with
      |true=>simp [h6] at h
      |false=>
       simp only [h6] at h
       exact ⟨_,h,fun w=>by simp [execOp,hr.eval h1,dD8 C.okL h2 h3 h4 h5 h6 w]⟩
  ·exact h.elim
 ·rename_i t x i
  unfold kP5 at h
  split at h
  ·rename_i kd j h1
   cases h2:lay C.L t with
   |none=>simp [h2] at h
   |some ti=>
    simp only [h2] at h
    cases h3:ti.td<;>simp only [h3] at h<;>try (exact h.elim)
    ·rename_i e
     have hu:=(C.okL.at h2).slice h3
     cases h4:lay C.L e with
     |none=>simp [h4] at h
     |some ei=>
      simp only [h4] at h
      obtain ⟨ii,hi,hi1,_,_⟩:=(C.okL.at h4).info'
      split at h
      ·rename_i p m c h5
       cases h with
       |mk hp g1 g2 hk=>
        subst hp
        exact ⟨_,hk,fun w=>by simp [execOp,hr.eval h1,hr.eval h5,Instr.indexAt,asIntOf,run_underlying hu,g1,g2,sizeOf,typeInfo,hi,hi1,cZ8]⟩
      ·exact h.elim
    ·rename_i m e
     have hu:=(C.okL.at h2).array h3
     cases h4:lay C.L e with
     |none=>simp [h4] at h
     |some ei=>
      simp only [h4] at h
      obtain ⟨ii,hi,hi1,_,_⟩:=(C.okL.at h4).info'
      split at h
      ·rename_i p h5
       cases h with
       |mk hp g1 g2 hk=>
        subst hp
        exact ⟨_,hk,fun w=>by simp [execOp,hr.eval h1,hr.eval h5,Instr.indexAt,Instr.sureAddr,asIntOf,run_underlying hu,g1,g2,sizeOf,typeInfo,hi,hi1,cZ8]⟩
      ·exact h.elim
  ·exact h.elim
 ·rename_i x
  unfold mY7 at h
  split at h
  ·rename_i ad h1
   exact ⟨_,h,fun w=>by simp [execOp,hr.eval h1]⟩
  ·rename_i f x y h1
   exact ⟨_,h,fun w=>by simp [execOp,hr.eval h1]⟩
  ·rename_i f x y h1
   exact ⟨_,h,fun w=>by simp [execOp,hr.eval h1]⟩
  ·exact h.elim
 ·rename_i op t x y yt
  unfold kD6 at h
  cases h1:ev env x with
  |none=>simp [h1] at h
  |some vx=>
   simp only [h1] at h
   cases h2:ev env y with
   |none=>simp [h2] at h
   |some vy=>
    simp only [h2] at h
    obtain ⟨v,hv,hrun⟩:=kH0 x y h
    refine ⟨v,hv,fun w=>?_⟩
    have:=hrun w
    simp only [execOp,hr.eval h1,hr.eval h2]
    simp only [Sem.run_bind] at this ⊢
    rw [this]
    simp
 ·rename_i op t x
  unfold lJ1 at h
  split at h
  ·split at h
   ·rename_i b h1
    have:=dP0 h
    cases b
    ·exact ⟨_,(by simpa using this),fun w=>by simp [execOp,hr.eval h1,Op.unary]⟩
    ·exact ⟨_,(by simpa using this),fun w=>by simp [execOp,hr.eval h1,Op.unary]⟩
   ·exact h.elim
  ·split at h
   ·rename_i kd j h1
    exact ⟨_,h.use,fun w=>by simp [execOp,hr.eval h1,Op.unary,Op.intArith]⟩
   ·exact h.elim
  ·exact h.elim
 ·rename_i s d x
  unfold lM5 at h
  split at h
  ·rename_i kd j h1
   cases h2:lay C.L s with
   |none=>simp [h2] at h
   |some si=>
    simp only [h2] at h
    cases h3:si.td<;>simp only [h3] at h<;>try (exact h.elim)
    have hus:=(C.okL.at h2).int h3
    cases h4:lay C.L d with
    |none=>simp [h4] at h
    |some di=>
     simp only [h4] at h
     cases h5:di.td<;>simp only [h5] at h<;>try (exact h.elim)
     have hud:=(C.okL.at h4).int h5
     exact ⟨_,h.use,fun w=>by simp [execOp,hr.eval h1,convert,run_underlying hus,run_underlying hud,Conv.intToInt]⟩
  ·exact h.elim
 ·rename_i x i
  unfold gF9 at h
  split at h
  ·rename_i vs h1
   cases h2:kR4 vs.toList i with
   |none=>simp [h2] at h
   |some v=>
    simp only [h2] at h
    rw [hY2] at h2
    have h2':vs[i]? =some v:=by simpa using h2
    exact ⟨v,h,fun w=>by simp [execOp,hr.eval h1,Instr.extract,h2']⟩
  ·exact h.elim
 ·rename_i fn f c
  unfold lM0 at h
  cases h1:evs env f.toList with
  |none=>simp [h1] at h
  |some fs=>
   simp only [h1] at h
   cases h2:evs env c.toList with
   |none=>simp [h2] at h
   |some cs=>
    simp only [h2] at h
    exact ⟨_,h,fun w=>by simp [execOp,Instr.makeFunc,bV6 hr h1,bV6 hr h2]⟩
 ·rename_i t parts
  unfold kD4 at h
  cases h1:lay C.L t with
  |none=>simp [h1] at h
  |some ti=>
   simp only [h1] at h
   cases h2:ti.td<;>simp only [h2] at h<;>try (exact h.elim)
   ·rename_i nn e
    cases he:lay C.L e with
    |none=>simp [he] at h
    |some ei=>
     simp only [he] at h
     cases h3:evp env parts.toList with
     |none=>simp [h3] at h
     |some ps=>
      simp only [h3] at h
      cases h4:fP5 ei.size ps (bX3 ti.zero) with
      |none=>simp [h4] at h
      |some cs=>
       simp only [h4] at h
       refine ⟨_,h,fun w=>?_⟩
       have hu:=(C.okL.at h1).array h2
       obtain ⟨ii,hi,hi1,hi2,hz⟩:=(C.okL.at h1).info'
       obtain ⟨ie,hie,hie1,_⟩:=(C.okL.at he).info'
       have hps:parts.map (fun (x:Nat×Operand)=>(x.1,a.eval x.2))=ps.toArray:=by
        apply QQ.1
        simpa using dJ9 hr h3
       have hb:C.P.built t ps=some cs.toArray:=by
        have hz2:ti.zero.cells=(bX3 ti.zero).toArray:=by rw [<-bX8]
        simp only [Program.built,hi,hu,hz,hie,hie1,hz2]
        exact (cR7 ei.size ps _ _ h4).1
       have hrun:=run_build (P:=C.P) w t ps.toArray cs.toArray (by simpa using hb)
       simp only [execOp,hps,Sem.run_bind,hrun,Result.andThen_ok,Sem.run_pure]
   ·rename_i fs
    cases h3:evp env parts.toList with
    |none=>simp [h3] at h
    |some ps=>
     simp only [h3] at h
     cases h5:cH9 C.L fs with
     |none=>simp [h5] at h
     |some pl=>
      simp only [h5] at h
      cases h4:gT1 pl ps (bX3 ti.zero) with
      |none=>simp [h4] at h
      |some cs=>
       simp only [h4] at h
       refine ⟨_,h,fun w=>?_⟩
       obtain ⟨fields,hu,hm⟩:=(C.okL.at h1).struct h2
       obtain ⟨ii,hi,hi1,hi2,hz⟩:=(C.okL.at h1).info'
       have hps:parts.map (fun (x:Nat×Operand)=>(x.1,a.eval x.2))=ps.toArray:=by
        apply QQ.1
        simpa using dJ9 hr h3
       have hb:C.P.built t ps=some cs.toArray:=by
        have hz2:ti.zero.cells=(bX3 ti.zero).toArray:=by rw [<-bX8]
        simp only [Program.built,hi,hu,hz]
        rw [cL7 C.okL (by rw [hm];exact h5)]
        simp only [hz2]
        exact hP5 ps _ _ h4
       have hrun:=run_build (P:=C.P) w t ps.toArray cs.toArray (by simpa using hb)
       simp only [execOp,hps,Sem.run_bind,hrun,Result.andThen_ok,Sem.run_pure]
 ·rename_i t x lo hi
  unfold kB7 at h
  cases h1:lay C.L t with
  |none=>simp [h1] at h
  |some ti=>
   simp only [h1] at h
   cases h2:ti.td<;>simp only [h2] at h<;>try (exact h.elim)
   rename_i e
   have hu:=(C.okL.at h1).slice h2
   cases h3:lay C.L e with
   |none=>simp [h3] at h
   |some ei=>
    simp only [h3] at h
    obtain ⟨ii,hii,hi1,_,_⟩:=(C.okL.at h3).info'
    split at h
    ·rename_i p m c h4
     cases h5:dG5 env lo 0 with
     |none=>simp [h5] at h
     |some l=>
      simp only [h5] at h
      cases h6:dG5 env hi m with
      |none=>simp [h6] at h
      |some hh=>
       simp only [h6] at h
       cases h with
       |mk g1 g2 g3 hk=>
        have hrun:=fun w=>gM0 hu hii p m c none none l hh (lo.map a.eval) (hi.map a.eval) (dC6 hr h5) (dC6 hr h6) g1 g2 g3 w
        refine ⟨_,hk (if c=l.toNat then p else p.map (·.add (l.toNat*ii.size))) (fun hlt=>?_) (fun heq=>?_),fun w=>?_⟩
        ·rw [jk qZ,hi1]
        ·rw [jw qZ]
        ·have:=hrun w
         simp only [execOp,hr.eval h4]
         simp only [Sem.run_bind,Option.map_none,this,Result.andThen_ok,Sem.run_pure,jf]
    ·exact h.elim
 ·rename_i t x lo hi mx
  unfold hJ2 at h
  cases h1:lay C.L t with
  |none=>simp [h1] at h
  |some ti=>
   simp only [h1] at h
   cases h2:ti.td<;>simp only [h2] at h<;>try (exact h.elim)
   rename_i e
   have hu:=(C.okL.at h1).slice h2
   cases h3:lay C.L e with
   |none=>simp [h3] at h
   |some ei=>
    simp only [h3] at h
    obtain ⟨ii,hii,hi1,_,_⟩:=(C.okL.at h3).info'
    split at h
    ·rename_i p n c h4
     cases lo with
     |none=>exact h.elim
     |some lo=>
      cases hi with
      |none=>exact h.elim
      |some hi=>
       simp only at h
       split at h
       ·rename_i kl l h5
        split at h
        ·rename_i kh hh h6
         split at h
         ·rename_i km m h7
          cases h with
          |mk g4 hs=>
           cases hs with
           |mk g1 g2 g3 hk=>
            have hrun:=fun w=>fR1 (P:=C.P) hu hii p n c kl kh km l hh m g1 g2 g3 g4 w
            refine ⟨_,hk (if m.toNat=l.toNat then p else p.map (·.add (l.toNat*ii.size))) (fun hlt=>?_) (fun heq=>?_),fun w=>?_⟩
            ·rw [jk qZ,hi1]
            ·rw [jw qZ]
            ·have:=hrun w
             simp only [execOp,hr.eval h4,qV,hr.eval h5,hr.eval h6,hr.eval h7]
             simp only [Sem.run_bind,this,Result.andThen_ok,Sem.run_pure]
         ·exact h.elim
        ·exact h.elim
       ·exact h.elim
    ·exact h.elim
 ·rename_i t x i
  unfold mY8 at h
  split at h
  ·rename_i kd j h1
   cases h2:lay C.L t with
   |none=>simp [h2] at h
   |some ti=>
    simp only [h2] at h
    cases h3:ti.td<;>simp only [h3] at h<;>try (exact h.elim)
    rename_i m e
    have hu:=(C.okL.at h2).array h3
    cases h4:lay C.L e with
    |none=>simp [h4] at h
    |some ei=>
     simp only [h4] at h
     have hok:=C.okL.at h4
     obtain ⟨ii,hi,hi1,_,_⟩:=hok.info'
     split at h
     ·rename_i cs h5
      cases h with
      |@mk vs g1 g2 hs hk=>
       have he:=kB2 hs
       obtain ⟨s1,s2⟩:=bP2 _ _ _ _ hs
       cases h6:kD9 ei.td with
       |true=>
        rw [h6] at hk
        refine ⟨_,hk,fun w=>?_⟩
        have he:cs.extract (j.toNat*ei.size) (j.toNat*ei.size+ei.size)=vs.toArray:=by
         apply QQ.1
         rw [he,Array.toList_extract,List.extract_eq_take_drop,QL]
        simp [execOp,hr.eval h1,hr.eval h5,Instr.index,asIntOf,run_underlying hu,g1,g2,part,sizeOf,typeInfo,hi,hi1,cG8 hok,h6,he]
       |false=>
        rw [h6] at hk
        simp only [elV] at hk
        unfold lK6 at hk
        split at hk
        ·rename_i v
         refine ⟨v,hk,fun w=>?_⟩
         have h7:cs[j.toNat*ei.size]? =some v:=by
          have:=s2 0 v rfl
          simpa using this
         simp [execOp,hr.eval h1,hr.eval h5,Instr.index,asIntOf,run_underlying hu,g1,g2,part,sizeOf,typeInfo,hi,hi1,cG8 hok,h6,h7]
        ·exact hk.elim
     ·exact h.elim
  ·exact h.elim
 ·rename_i t x f
  unfold hP6 at h
  cases h2:lay C.L t with
  |none=>simp [h2] at h
  |some ti=>
   simp only [h2] at h
   cases h3:ti.td<;>simp only [h3] at h<;>try (exact h.elim)
   rename_i fs
   obtain ⟨fields,hu,hm⟩:=(C.okL.at h2).struct h3
   cases h9:fs[f]? with
   |none=>simp [h9] at h
   |some ot=>
    simp only [h9] at h
    cases h4:lay C.L ot.2 with
    |none=>simp [h4] at h
    |some ei=>
     simp only [h4] at h
     have hok:=C.okL.at h4
     obtain ⟨ii,hi,hi1,_,_⟩:=hok.info'
     rw [<-hm,qj] at h9
     cases hf:fields.toList[f]? with
     |none=>simp [hf] at h9
     |some fd=>
      simp only [hf,qV,qK] at h9
      subst h9
      have hf':fields[f]? =some fd:=by simpa using hf
      split at h
      ·rename_i cs h5
       cases hs:sub cs.toList fd.offset ei.size with
       |none=>simp [hs] at h
       |some vs=>
        simp only [hs] at h
        have he:=kB2 hs
        obtain ⟨s1,s2⟩:=bP2 _ _ _ _ hs
        cases h6:kD9 ei.td with
        |true=>
         rw [h6] at h
         refine ⟨_,h,fun w=>?_⟩
         have he:cs.extract fd.offset (fd.offset+ei.size)=vs.toArray:=by
          apply QQ.1
          rw [he,Array.toList_extract,List.extract_eq_take_drop,QL]
         simp [execOp,hr.eval h5,Instr.field,asAgg,run_underlying hu,hf',part,sizeOf,typeInfo,hi,hi1,cG8 hok,h6,he]
        |false=>
         rw [h6] at h
         simp only [elV] at h
         unfold lK6 at h
         split at h
         ·rename_i v
          refine ⟨v,h,fun w=>?_⟩
          have h7:cs[fd.offset]? =some v:=by
           have:=s2 0 v rfl
           simpa using this
          simp [execOp,hr.eval h5,Instr.field,asAgg,run_underlying hu,hf',part,sizeOf,typeInfo,hi,hi1,cG8 hok,h6,h7]
         ·exact h.elim
      ·exact h.elim
 ·rename_i b args ts
  have hs:∀{ts:Array TypeId},cX7 C.L ts.toList=true->∃t e,ts=#[t]/\C.P.underlying t=some (.slice e):=by
   intro ts hts
   unfold cX7 at hts
   split at hts
   ·rename_i t htt
    cases h1:lay C.L t with
    |none=>simp [h1] at hts
    |some ti=>
     simp only [h1] at hts
     cases h2:ti.td<;>simp only [h2] at hts<;>try (cases hts;done)
     exact ⟨t,_,QQ.1 (by simpa using htt),(C.okL.at h1).slice h2⟩
   ·cases hts
  unfold fJ9 at h
  split at h
  ·cases h1:cX7 C.L ts.toList with
   |false=>simp [h1] at h
   |true=>
    simp only [h1] at h
    obtain ⟨t,e,rfl,hu⟩:=hs h1
    split at h
    ·rename_i p m c h2
     exact ⟨_,h,fun w=>by simp [execOp,resolve,invoke,builtin,bV6 hr h2,Builtin.len_,run_underlying hu,goInt]⟩
    ·exact h.elim
  ·cases h1:cX7 C.L ts.toList with
   |false=>simp [h1] at h
   |true=>
    simp only [h1] at h
    obtain ⟨t,e,rfl,hu⟩:=hs h1
    split at h
    ·rename_i p m c h2
     exact ⟨_,h,fun w=>by simp [execOp,resolve,invoke,builtin,bV6 hr h2,Builtin.cap_,run_underlying hu,goInt]⟩
    ·exact h.elim
  ·split at h
   ·rename_i x r h2
    cases h3:kR6 x r with
    |none=>simp [h3] at h
    |some c=>
     simp only [h3] at h
     exact ⟨_,h,fun w=>by simp [execOp,resolve,invoke,builtin,bV6 hr h2,Builtin.min_,gY8 r x c w h3]⟩
   ·exact h.elim
  ·split at h
   ·rename_i x r h2
    cases h3:kR7 x r with
    |none=>simp [h3] at h
    |some c=>
     simp only [h3] at h
     exact ⟨_,h,fun w=>by simp [execOp,resolve,invoke,builtin,bV6 hr h2,Builtin.max_,gG3 r x c w h3]⟩
   ·exact h.elim
  ·exact h.elim
 ·exact h.elim
end
end Go.Vx
end
section
set_option linter.unusedSimpArgs false
set_option linter.unusedVariables false
namespace Go.Vx
open Go Go.RowKit
def Cells (w:World)(b off:Nat)(vs:List Value):Prop:=∀(j:Nat) (v:Value),vs[j]? =some v->w.cell? ⟨b,off+j,none⟩=some v
inductive Rd (w0:World) (M:List Nat) (H:HP) (b off s:Nat):List Value->Prop
 |row {e:TypeId} {cs:List Value} {u:Ent->HP} {r:HP} {vs:List Value} (hat:At H (.row b e cs) u r) (h:sub cs off s=some vs):Rd w0 M H b off s vs
 |vec {n cap e size:Nat} {xs:List Value} {u:Ent->HP} {r:HP} {vs:List Value} (hat:At H (.vec (some ⟨b,0,none⟩) n cap e size xs) u r) (h:sub xs off s=some vs):Rd w0 M H b off s vs
 |old {vs:List Value} (h:Cells w0 b off vs) (hl:vs.length=s) (hM:b∉M):Rd w0 M H b off s vs
theorem fM2 {w:World}{b off s:Nat}{cur:Array Value}{e:TypeId}{fr:Nat×Nat}{cs vs:List Value}(hg:w.heap[b]? =some (.cells cur e fr))(hc:∀(j:Nat) (v:Value),cs[j]? =some v->cur[j]? =some v)
  (h:sub cs off s=some vs):Cells w b off vs:=by
 intro j v hj
 have:=hc _ _ ((bP2 _ _ _ _ h).2 j v hj)
 simp [World.cell?,hg,this]
theorem bW7 {w:World}{a:Addr}{n cap e size:Nat}{xs:List Value}(h:(Ent.vec (some a) n cap e size xs).sat w):
  ∃g cur,a=⟨g,0,none⟩/\w.heap[g]? =some (.cells cur e (0,0))/\n<=cap/\cap<=maxLen/\cur.size=cap*size/\cur.toList.take (n*size)=xs/\xs.length=n*size:=by
 obtain ⟨h1,h2⟩:=h
 rcases h2 with ⟨h2,_⟩|⟨g,c,cur,hv,_,hg,hn,hc,hs,ht⟩
 ·cases h2
 ·simp only [Value.slice.injEq,qK,true_and] at hv
  obtain ⟨rfl,rfl⟩:=hv
  exact ⟨g,cur,rfl,hg,hn,hc,hs,ht,h1⟩
theorem Rd.len {w0:World}{M:List Nat}{H:HP}{b off s:Nat}{vs:List Value}(h:Rd w0 M H b off s vs):vs.length=s:=by
 cases h with
 |row hat h=>exact (bP2 _ _ _ _ h).1
 |vec hat h=>exact (bP2 _ _ _ _ h).1
 |old h hl hM=>exact hl
theorem Rd.use {w0:World}{M:List Nat}{H:HP}{w:World}{b off s:Nat}{vs:List Value}(hs:St w0 M H w)(h:Rd w0 M H b off s vs):Cells w b off vs:=by
 cases h with
 |row hat h=>
  have hrow:w.heap[b]? =_:=hs.own _ hat.mem
  exact fM2 hrow (fun j v hj=>by simpa using hj) h
 |vec hat h=>
  obtain ⟨g,cur,hg,hh,_,_,_,ht,_⟩:=bW7 (hs.own _ hat.mem)
  cases hg
  refine fM2 hh (fun j v hj=>?_) h
  rw [<-ht,Qt] at hj
  split at hj
  ·simpa using hj
  ·cases hj
 |old h hl hM=>
  intro j v hj
  have h1:=h j v hj
  have hlt:=block_lt_of_cell h1
  have:=hs.old b hlt hM
  rw [World.cell?_of_block (w:=w0) (w':=w) (a:=⟨b,off+j,none⟩) this]
  exact h1
theorem Cells.load {P:Program}{w:World}{b off:Nat}{vs:List Value}(h:Cells w b off vs):(loadCells ⟨b,off,none⟩ vs.length).run P w=.ok vs.toArray w:=
 run_loadCells_list w ⟨b,off,none⟩ vs fun j v hj=>by rw [cZ8];exact h j v hj
inductive VLd (w0:World) (M:List Nat) (H:HP) (b off s:Nat) (k:List Value->Prop):Prop
 |mk {vs:List Value} (h:Rd w0 M H b off s vs) (hk:k vs)
def kK5 (L:Lay)(w0:World)(M:List Nat)(H:HP)(env:Env)(t:TypeId)(x:Operand)(k:Value->Prop):Prop:=
 match ev env x with
 |some (.pointer (some ⟨b,off,none⟩))=>
  match lay L t with
  |some ti=>
   match kD9 ti.td with
   |true=>VLd w0 M H b off ti.size fun vs=>k (.agg vs.toArray)
   |false=>VLd w0 M H b off 1 fun vs=>lK6 vs k
  |none=>False
 |_=>False
def bZ4:List (Int×Value)->Int->Option Value
 |[],_=>none
 |p::r,j=>if p.1=j then some p.2 else bZ4 r j
def cB4:List (Int×Value)->Int->Value->List (Int×Value)
 |[],j,v=>[(j,v)]
 |p::r,j,v=>if p.1=j then (j,v)::r else p::cB4 r j v
def kK1:List (Int×Value)->Int->List (Int×Value)
 |[],_=>[]
 |p::r,j=>if p.1=j then r else p::kK1 r j
inductive VLk (m:List (Int×Value)) (j:Int) (k:Option Value->Prop):Prop
 |has {v:Value} (h:bZ4 m j=some v) (hk:k (some v))
 |lacks (h:bZ4 m j=none) (hk:k none)
theorem VLk.use {m:List (Int×Value)}{j:Int}{k:Option Value->Prop}(h:VLk m j k):k (bZ4 m j):=by
 cases h with
 |has h hk=>rw [h];exact hk
 |lacks h hk=>rw [h];exact hk
theorem VLk.split {m:List (Int×Value)}{j:Int}{k:Option Value->Prop}(h1:∀v,bZ4 m j=some v->k (some v))(h2:bZ4 m j=none->k none):VLk m j k:=by
 cases h:bZ4 m j with
 |none=>exact .lacks h (h2 h)
 |some v=>exact .has h (h1 v h)
inductive VMp (w0:World) (M:List Nat) (H:HP) (b:Nat) (k:List (Int×Value)->Prop):Prop
 |mk {m:List (Int×Value)} {u:Ent->HP} {r:HP} (hat:At H (.map b m) u r) (hk:k m)
 |old {m:List (Int×Value)} (h:mapIs w0 b m) (hM:b∉M) (hk:k m)
theorem mapIs.keep {w0 w:World}{M:List Nat}{H:HP}{b:Nat}{m:List (Int×Value)}(h:mapIs w0 b m)(hs:St w0 M H w)(hM:b∉M):mapIs w b m:=by
 obtain ⟨es,cl,h1,h2⟩:=h
 exact ⟨es,cl,by rw [hs.old b (Qh.1 h1).1 hM];exact h1,h2⟩
theorem VMp.use {w0:World}{M:List Nat}{H:HP}{b:Nat}{k:List (Int×Value)->Prop}(h:VMp w0 M H b k):∃m,k m/\∀w,St w0 M H w->mapIs w b m:=by
 cases h with
 |@mk m u r hat hk=>exact ⟨m,hk,fun w hw=>hw.own _ hat.mem⟩
 |@old m h hM hk=>exact ⟨m,hk,fun w hw=>h.keep hw hM⟩
def fX9 (ok:Bool)(zero:Value)(x:Option Value)(k:Value->Prop):Prop:=
 match x with
 |some v=>
  match ok with
  |true=>k (.tuple #[v,.bool true])
  |false=>k v
 |none=>
  match ok with
  |true=>k (.tuple #[zero,.bool false])
  |false=>k zero
def fC0 (L:Lay)(t:TypeId):Option TypeId:=
 match lay L t with
 |some ti=>
  match ti.td with
  | .map kt et=>
   match lay L kt with
   |some ki=>
    match ki.td with
    | .int .i64=>some et
    |_=>none
   |none=>none
  |_=>none
 |none=>none
def lW1 (L:Lay)(w0:World)(M:List Nat)(H:HP)(env:Env)(t:TypeId)(x i:Operand)(ok:Bool)(k:Value->Prop):Prop:=
 match fC0 L t with
 |some et=>
  match lay L et with
  |some ei=>
   match ev env i with
   |some (.int .i64 j)=>
    match ev env x with
    |some (.map none)=>fX9 ok ei.zero none k
    |some (.map (some b))=>VMp w0 M H b fun m=>VLk m j fun r=>fX9 ok ei.zero r k
    |_=>False
   |_=>False
  |none=>False
 |none=>False
def hF5 (L:Lay)(w0:World)(M:List Nat)(H:HP)(env:Env)(args:List Operand)(ts:List TypeId)(k:Value->Prop):Prop:=
 match ts with
 |[t]=>
  match fC0 L t with
  |some _=>
   match evs env args with
   |some [.map none]=>k (.int .i64 0)
   |some [.map (some b)]=>VMp w0 M H b fun m=>k (.int .i64 m.length)
   |_=>False
  |none=>False
 |_=>False
inductive VLnK (H:HP) (b:Nat) (k:Nat->Prop):Prop
 |mk {m:List (Value×Value)} {u:Ent->HP} {r:HP} (hat:At H (.mapk b m) u r) (hk:k m.length)
inductive VLkK (P:Program) (kt:TypeId) (H:HP) (b:Nat) (x:Value) (k:Option Value->Prop):Prop
 |mk {m:List (Value×Value)} {u:Ent->HP} {r:HP} (hat:At H (.mapk b m) u r) (hl:WideMaps.KeyLaw P kt) (hx:∃l,keyOf P kt x=some l) (hall:∀p∈m,∃l,keyOf P kt p.1=some l)
   (h0:(∀p∈m,p.1≠x)->k none) (h1:∀(j:Nat) v,m[j]? =some (x,v)->k (some v))
 |obj {es:Array MapEntry} {clock:Nat} {m:List (Value×Value)} {u:Ent->HP} {r:HP} (hat:At H (.obj b (.map es clock)) u r) (hm:es.toList.map (fun x=>(x.key,x.val))=m) (hs:MapKept.Stamped es clock)
   (hl:WideMaps.KeyLaw P kt) (hx:∃l,keyOf P kt x=some l) (hall:∀p∈m,∃l,keyOf P kt p.1=some l)
   (h0:(∀p∈m,p.1≠x)->k none) (h1:∀(j:Nat) v,m[j]? =some (x,v)->k (some v))
def hR1 (L:Lay)(t:TypeId):Option (TypeId×TypeId):=
 match lay L t with
 |some ti=>
  match ti.td with
  | .map kt et=>some (kt,et)
  |_=>none
 |none=>none
def lW2 (L:Lay)(H:HP)(env:Env)(args:List Operand)(ts:List TypeId)(k:Value->Prop):Prop:=
 match ts with
 |[t]=>
  match hR1 L t with
  |some _=>
   match evs env args with
   |some [.map (some b)]=>VLnK H b fun n=>k (.int .i64 n)
   |_=>False
  |none=>False
 |_=>False
def kP3 (P:Program)(L:Lay)(H:HP)(env:Env)(t:TypeId)(x i:Operand)(ok:Bool)(k:Value->Prop):Prop:=
 match hR1 L t with
 |some (kt,et)=>
  match lay L et with
  |some ei=>
   match ev env i with
   |some key=>
    match ev env x with
    |some (.map (some b))=>VLkK P kt H b key fun r=>fX9 ok ei.zero r k
    |_=>False
   |none=>False
  |none=>False
 |none=>False
inductive VBs (P:Program) (w0:World) (M:List Nat) (H:HP) (d:TypeId) (p:Option Addr) (n:Nat) (k:Value->Prop):Prop
 |mk {ns:List Int} (hd:P.underlying d=some .string) (hn:ns.length=n) (hs:∃b off,p=some ⟨b,off,none⟩/\Rd w0 M H b off n (ns.map (Value.int .u8)))
   (hk:k (.string (ns.foldl (fun r n=>r.push (UInt8.ofNat n.toNat)) ByteArray.empty)))
 |nil (hd:P.underlying d=some .string) (hp:p=none) (hk:k (.string ByteArray.empty))
def mV3 (C:Cx)(w0:World)(M:List Nat)(H:HP)(env:Env)(s d:TypeId)(x:Operand)(k:Value->Prop):Prop:=
 match lay C.L s with
 |some si=>
  match si.td with
  | .slice e=>
   match lay C.L e with
   |some ei=>
    match ei.td with
    | .int .u8=>
     match ev env x with
     |some (.slice p n _)=>VBs C.P w0 M H d p n k
     |_=>False
    |_=>False
   |none=>False
  |_=>gM6 C (.convert s d x) env k
 |none=>False
inductive VEn (H:HP) (it:Nat) (k:Value->Prop):Prop
 |mk {b since clock:Nat} {seen:Array Nat} {es:Array MapEntry} {x:MapEntry} {u1 u2:Ent->HP} {r1 r2:HP} (h1:At H (.obj it (.mapIter (some b) since seen clock)) u1 r1) (h2:At H (.obj b (.map es clock)) u2 r2)
   (hs:seen.back? =some x.born) (hf:es.find? (fun e=>e.born==x.born)=some x) (hk:k (.tuple #[x.key,x.val]))
def kP9 (H:HP)(env:Env)(it:Operand)(k:Value->Prop):Prop:=
 match ev env it with
 |some (.pointer (some ⟨b,0,none⟩))=>VEn H b k
 |_=>False
def kP4 (L:Lay):List TypeId->Bool
 |t::_=>match fC0 L t with
  |some _=>true
  |none=>false
 |[]=>false
def hV3 (C:Cx)(w0:World)(M:List Nat)(H:HP)(op:Op)(env:Env)(k:Value->Prop):Prop:=
 match op with
 | .load t x=>kK5 C.L w0 M H env t x k
 | .lookup t x i ok=>
  match fC0 C.L t with
  |some _=>lW1 C.L w0 M H env t x i ok k
  |none=>kP3 C.P C.L H env t x i ok k
 | .convert s d x=>mV3 C w0 M H env s d x k
 | .entry it=>kP9 H env it k
 | .call {callee:=.builtin .len,args,argTypes}=>
  match cX7 C.L argTypes.toList with
  |true=>fJ9 C.L env .len args.toList argTypes.toList k
  |false=>
   match kP4 C.L argTypes.toList with
   |true=>hF5 C.L w0 M H env args.toList argTypes.toList k
   |false=>lW2 C.L H env args.toList argTypes.toList k
 |_=>False
def dT4:List (Int×Value)->Int->Option Nat
 |[],_=>none
 |p::r,j=>if p.1=j then some 0 else (dT4 r j).map (· +1)
theorem dF7:∀{m:List (Int×Value)} {j:Int},dT4 m j=none->bZ4 m j=none/\cB4 m j=fun v=>m++[(j,v)]
 |[],j,_=>⟨rfl,rfl⟩
 |p::r,j,h=>by
  simp only [dT4] at h
  split at h
  ·cases h
  ·rename_i hne
   have:=dF7 (m:=r) (j:=j) (by simpa using h)
   exact ⟨by simp [bZ4,hne,this.1],by funext v;simp [cB4,hne,this.2]⟩
theorem cN2:∀{m:List (Int×Value)} {j:Int} {i:Nat},dT4 m j=some i->∃v,m[i]? =some (j,v)/\bZ4 m j=some v/\(∀u,cB4 m j u=m.set i (j,u))/\kK1 m j=m.eraseIdx i
 |[],j,i,h=>by simp [dT4] at h
 |p::r,j,i,h=>by
  simp only [dT4] at h
  split at h
  ·rename_i he
   cases h
   obtain ⟨p1,p2⟩:=p
   simp only at he
   subst he
   exact ⟨p2,by simp,by simp [bZ4],by simp [cB4],by simp [kK1]⟩
  ·rename_i hne
   cases hi:dT4 r j with
   |none=>simp [hi] at h
   |some i'=>
    simp only [hi,qV,qK] at h
    subst h
    obtain ⟨v,h1,h2,h3,h4⟩:=cN2 hi
    exact ⟨v,by simpa using h1,by simp [bZ4,hne,h2],fun u=>by simp [cB4,hne,h3],by simp [kK1,hne,h4]⟩
theorem cZ2 (j:Int):∀(es:List MapEntry) (m:List (Int×Value)) (i:Nat),es.map (fun x=>(x.key,x.val))=m.map (fun x=>(Value.int .i64 x.1,x.2))->
  Instr.findNow (.int .i64) (.int .i64 j) es i=some (match dT4 m j with|none=>none|some q=>(bZ4 m j).map fun v=>(i+q,v))
 |[],m,i,h=>by
  cases m with
  |nil=>simp [Instr.findNow,dT4]
  |cons p r=>simp at h
 |e::es,m,i,h=>by
  cases m with
  |nil=>simp at h
  |cons p r=>
   simp only [qI,List.cons.injEq,Prod.mk.injEq] at h
   obtain ⟨⟨hk,hv⟩,hr⟩:=h
   have ih:=cZ2 j es r (i+1) hr
   simp only [Instr.findNow,hk,Instr.sameNow,if_true]
   by_cases hj:p.1=j
   ·have:(j==p.1)=true:=by simp [hj]
    simp only [this,dT4,bZ4,hj,if_true]
    simp [hv]
   ·have:(j==p.1)=false:=by simp [Ne.symm hj]
    simp only [this,ih,dT4,bZ4,hj,if_false]
    cases dT4 r j with
    |none=>rfl
    |some q=>simp only [qV];cases bZ4 r j<;>simp [Nat.add_assoc,Nat.add_comm 1 q]
theorem cV7 {P:Program}{L:Lay}(hL:LayOk P L){t et:TypeId}(h:fC0 L t=some et):∃kt,P.underlying t=some (.map kt et)/\P.underlying kt=some (.int .i64):=by
 unfold fC0 at h
 cases h1:lay L t with
 |none=>simp [h1] at h
 |some ti=>
  simp only [h1] at h
  cases h2:ti.td<;>simp only [h2] at h<;>try (cases h;done)
  rename_i kt et'
  cases h3:lay L kt with
  |none=>simp [h3] at h
  |some ki=>
   simp only [h3] at h
   split at h
   ·rename_i h4
    cases h
    exact ⟨kt,(hL.at h1).map h2,(hL.at h3).int h4⟩
   ·cases h
theorem dH6 {ok:Bool}{zero:Value}{x:Option Value}{k:Value->Prop}(h:fX9 ok zero x k):
  k (if ok then .tuple #[x.getD zero,.bool x.isSome] else x.getD zero):=by
 cases x<;>cases ok<;>simpa [fX9] using h
theorem dD7 {P:Program}{t kt et:TypeId}{i:TypeInfo}{z:Value}(hm:P.underlying t=some (.map kt et))(hk:P.underlying kt=some (.int .i64))(hi:P.info? et=some i)(hz:i.zero=some z)
  {w:World} {b:Nat} {m:List (Int×Value)} (hb:mapIs w b m) (j:Int) (ok:Bool):
  (Instr.lookup t (.map (some b)) (.int .i64 j) ok).run P w=.ok (if ok then .tuple #[(bZ4 m j).getD z,.bool (bZ4 m j).isSome] else (bZ4 m j).getD z) w:=by
 obtain ⟨es,clock,h1,h2⟩:=hb
 have hkey:MapKept.IsKey (.int .i64) (.int .i64 j):=rfl
 have hf:=cZ2 j es.toList m 0 h2.1
 have hfk:=MapKept.run_findKey (P:=P) (w:=w) hk hf
 have hck:∀e,(Instr.checkKey e 10000 kt (.int .i64 j)).run P w=.ok () w:=fun e=>MapKept.run_checkKey hk hkey e 9999
 cases hx:dT4 m j with
 |none=>
  rw [hx] at hfk
  simp [Instr.lookup,run_underlying hm,MapKept.run_getObj_map h1,hck,hfk,(dF7 hx).1,zeroValue,typeInfo,hi,hz]
 |some q=>
  obtain ⟨v,_,hv,_⟩:=cN2 hx
  rw [hx] at hfk
  simp only [hv,qV] at hfk
  simp [Instr.lookup,run_underlying hm,MapKept.run_getObj_map h1,hck,hfk,hv]
theorem dD6 {P:Program}{t kt et:TypeId}{i:TypeInfo}{z:Value}(hm:P.underlying t=some (.map kt et))(hk:P.underlying kt=some (.int .i64))(hi:P.info? et=some i)(hz:i.zero=some z)
  {w:World} (j:Int) (ok:Bool):
  (Instr.lookup t (.map none) (.int .i64 j) ok).run P w=.ok (if ok then .tuple #[z,.bool false] else z) w:=by
 have hkey:MapKept.IsKey (.int .i64) (.int .i64 j):=rfl
 have hfk:=MapKept.run_findKey (P:=P) (w:=w) (l:=[]) (k:=.int .i64 j) (a:=none) hk rfl
 have hck:∀e,(Instr.checkKey e 10000 kt (.int .i64 j)).run P w=.ok () w:=fun e=>MapKept.run_checkKey hk hkey e 9999
 simp [Instr.lookup,run_underlying hm,hck,hfk,zeroValue,typeInfo,hi,hz]
theorem bL6 {P:Program}{L:Lay}(hL:LayOk P L){t kt et:TypeId}(h:hR1 L t=some (kt,et)):P.underlying t=some (.map kt et):=by
 unfold hR1 at h
 cases h1:lay L t with
 |none=>simp [h1] at h
 |some ti=>
  simp only [h1] at h
  cases h2:ti.td<;>simp only [h2] at h<;>try (cases h;done)
  cases h
  exact (hL.at h1).map h2
theorem cV6 {es:Array MapEntry}{m:List (Value×Value)}(h:es.toList.map (fun x=>(x.key,x.val))=m){q:Value->Prop}(hm:∀p∈m,q p.1):∀e∈es.toList,q e.key:=by
 intro e he
 have:(e.key,e.val)∈m:=by rw [<-h];exact qo.2 ⟨e,he,rfl⟩
 exact hm _ this
theorem cN0 {es:Array MapEntry}{m:List (Value×Value)}(h:es.toList.map (fun x=>(x.key,x.val))=m){x:Value}(hn:∀e∈es.toList,e.key≠x):∀p∈m,p.1≠x:=by
 intro p hp
 rw [<-h] at hp
 obtain ⟨e,he,rfl⟩:=qo.1 hp
 exact hn e he
theorem cV5 {es:Array MapEntry}{m:List (Value×Value)}(h:es.toList.map (fun x=>(x.key,x.val))=m){j:Nat}{e:MapEntry}(hj:es.toList[j]? =some e):m[j]? =some (e.key,e.val):=by
 rw [<-h,qj,hj];rfl
theorem VLkK.use {P:Program}{kt t et:TypeId}{w0:World}{M:List Nat}{H:HP}{b:Nat}{x:Value}{k:Option Value->Prop}(h:VLkK P kt H b x k)(hm:P.underlying t=some (.map kt et)):
  ∃r:Option Value,k r/\∀w,St w0 M H w->∀{i:TypeInfo} {z:Value},P.info? et=some i->i.zero=some z->∀ok:Bool,
   (Instr.lookup t (.map (some b)) x ok).run P w=.ok (if ok then .tuple #[r.getD z,.bool r.isSome] else r.getD z) w:=by
 have key:∀m:List (Value×Value),(∀w,St w0 M H w->kP2 w b m)->WideMaps.KeyLaw P kt->(∃l,keyOf P kt x=some l)->(∀p∈m,∃l,keyOf P kt p.1=some l)->((∀p∈m,p.1≠x)->k none)->(∀(j:Nat) v,m[j]? =some (x,v)->k (some v))->
   ∃r:Option Value,k r/\∀w,St w0 M H w->∀{i:TypeInfo} {z:Value},P.info? et=some i->i.zero=some z->∀ok:Bool,
    (Instr.lookup t (.map (some b)) x ok).run P w=.ok (if ok then .tuple #[r.getD z,.bool r.isSome] else r.getD z) w:=by
  intro m hown hl hx hall h0 h1
  obtain ⟨lx,hlx⟩:=hx
  by_cases hex:∃p∈m,p.1=x
  ·obtain ⟨p,hp,hpx⟩:=hex
   obtain ⟨j,hj⟩:=jh hp
   have hj1:m[j]? =some (x,p.2):=by rw [hj,<-hpx]
   refine ⟨some p.2,h1 j p.2 hj1,fun w hw i z hi hz ok=>?_⟩
   obtain ⟨es,clock,g1,g2,g3⟩:=hown w hw
   rcases hl.find w hlx es.toList (cV6 g2 (q:=fun k=>∃l,keyOf P kt k=some l) hall) with ⟨_,hn⟩|⟨j2,e,hrun,hj2,he⟩
   ·exact absurd hpx (cN0 g2 hn p hp)
   ·have k2:m[j2]? =some (x,e.val):=by rw [<-he];exact cV5 g2 hj2
    have hnd:(m.map (·.1)).Nodup:=by
     rw [<-g2,List.map_map]
     exact g3.2.2
    have e1:(m.map (·.1))[j]? =some x:=by rw [qj,hj1];rfl
    have e2:(m.map (·.1))[j2]? =some x:=by rw [qj,k2];rfl
    have hlt:=(qx.1 e1).1
    have hjj:j=j2:=(List.getElem?_inj hlt hnd).1 (e1.trans e2.symm)
    subst hjj
    rw [hj1] at k2
    simp only [qK,Prod.mk.injEq,true_and] at k2
    rw [<-k2] at hrun
    have hck:=fun em=>hl.check w em hlx
    simp [Instr.lookup,run_underlying hm,MapKept.run_getObj_map g1,hck,hrun]
  ·refine ⟨none,h0 fun p hp he=>hex ⟨p,hp,he⟩,fun w hw i z hi hz ok=>?_⟩
   obtain ⟨es,clock,g1,g2,g3⟩:=hown w hw
   rcases hl.find w hlx es.toList (cV6 g2 (q:=fun k=>∃l,keyOf P kt k=some l) hall) with ⟨hrun,hn⟩|⟨j,e,hrun,hj,he⟩
   ·have hck:=fun em=>hl.check w em hlx
    simp [Instr.lookup,run_underlying hm,MapKept.run_getObj_map g1,hck,hrun,zeroValue,typeInfo,hi,hz]
   ·exact absurd ⟨_,qz (cV5 g2 hj),he⟩ hex
 cases h with
 |@mk m u r hat hl hx hall h0 h1=>exact key m (fun w hw=>hw.own _ hat.mem) hl hx hall h0 h1
 |@obj es clock m u r hat hm2 hs hl hx hall h0 h1=>exact key m (fun w hw=>⟨es,clock,hw.own _ hat.mem,hm2,hs⟩) hl hx hall h0 h1
theorem VBs.use {P:Program}{w0:World}{M:List Nat}{H:HP}{d:TypeId}{p:Option Addr}{n:Nat}{k:Value->Prop}(h:VBs P w0 M H d p n k):
  ∃v,k v/\∀w,St w0 M H w->∀c,P.underlying d=some .string/\(Conv.bytesToString (.slice p n c)).run P w=.ok v w:=by
 cases h with
 |@mk ns hd hn hs hk=>
  obtain ⟨b,off,rfl,hrd⟩:=hs
  refine ⟨_,hk,fun w hw c=>⟨hd,?_⟩⟩
  have hload:=(hrd.use hw).load (P:=P)
  rw [hrd.len] at hload
  exact run_bytesToString w _ n c ns hload
 |nil hd hp hk=>
  subst hp
  exact ⟨_,hk,fun w hw c=>⟨hd,by simp [Conv.bytesToString]⟩⟩
theorem dY3 {C:Cx}{n:Nat}{env:Env}{a:Act}{o:Oper}{w0:World}{M:List Nat}{H:HP}{k:Value->Prop}(hr:Rep n env a)(h:hV3 C w0 M H o.op env k):
  ∃v,k v/\∀w,St w0 M H w->(execOp a.eval o).run C.P w=.ok (.value v) w:=by
 obtain ⟨dst,op,type,pos,after,guard⟩:=o
 simp only at h
 unfold hV3 at h
 split at h
 ·rename_i t x
  unfold kK5 at h
  split at h
  ·rename_i b off h1
   cases h2:lay C.L t with
   |none=>simp [h2] at h
   |some ti=>
    simp only [h2] at h
    have hok:=C.okL.at h2
    obtain ⟨ii,hi,hi1,_,_⟩:=hok.info'
    cases h3:kD9 ti.td with
    |true=>
     simp only [h3] at h
     cases h with
     |mk hrd hk=>
      refine ⟨_,hk,fun w hw=>?_⟩
      have hload:=(hrd.use hw).load (P:=C.P)
      rw [hrd.len] at hload
      simp [execOp,hr.eval h1,Instr.loadAt,Instr.sureAddr,loadVar,cG8 hok,h3,sizeOf,typeInfo,hi,hi1,hload]
    |false=>
     simp only [h3] at h
     cases h with
     |@mk vs hrd hk=>
      unfold lK6 at hk
      split at hk
      ·rename_i v
       refine ⟨v,hk,fun w hw=>?_⟩
       have:=hrd.use hw 0 v rfl
       simp only [Nat.add_zero] at this
       simp [execOp,hr.eval h1,Instr.loadAt,Instr.sureAddr,loadVar,cG8 hok,h3,load,Sem.run,this]
      ·exact hk.elim
  ·exact h.elim
 ·rename_i t x i ok
  split at h
  ·unfold lW1 at h
   cases h1:fC0 C.L t with
   |none=>simp [h1] at h
   |some et=>
    simp only [h1] at h
    obtain ⟨kt,hm,hkt⟩:=cV7 C.okL h1
    cases h2:lay C.L et with
    |none=>simp [h2] at h
    |some ei=>
     simp only [h2] at h
     obtain ⟨ii,hi,_,_,hz⟩:=(C.okL.at h2).info'
     split at h
     ·rename_i j h3
      split at h
      ·rename_i h4
       have:=dH6 h
       refine ⟨_,this,fun w hw=>?_⟩
       have hrun:=dD6 (P:=C.P) hm hkt hi hz (w:=w) j ok
       simp only [execOp,hr.eval h3,hr.eval h4,Sem.run_bind,hrun,Result.andThen_ok,Sem.run_pure]
       cases ok<;>simp
      ·rename_i b h4
       obtain ⟨m,hk,hmap⟩:=h.use
       ·have:=dH6 hk.use
        refine ⟨_,this,fun w hw=>?_⟩
        have hrun:=dD7 (P:=C.P) hm hkt hi hz (w:=w) (b:=b) (m:=m) (hmap w hw) j ok
        simp only [execOp,hr.eval h3,hr.eval h4,Sem.run_bind,hrun,Result.andThen_ok,Sem.run_pure]
      ·exact h.elim
     ·exact h.elim
  ·unfold kP3 at h
   split at h
   ·rename_i kt et hkt
    have hm:C.P.underlying t=some (.map kt et):=bL6 C.okL hkt
    cases h2:lay C.L et with
    |none=>simp [h2] at h
    |some ei=>
     simp only [h2] at h
     obtain ⟨ii,hi,_,_,hz⟩:=(C.okL.at h2).info'
     split at h
     ·rename_i key h3
      split at h
      ·rename_i b h4
       obtain ⟨rr,hk,hrun⟩:=h.use (t:=t) (et:=et) (w0:=w0) (M:=M) hm
       have:=dH6 hk
       refine ⟨_,this,fun w hw=>?_⟩
       simp only [execOp,hr.eval h3,hr.eval h4,Sem.run_bind,hrun w hw hi hz ok,Result.andThen_ok,Sem.run_pure]
      ·exact h.elim
     ·exact h.elim
   ·exact h.elim
 ·rename_i s d x
  unfold mV3 at h
  split at h
  ·rename_i si hsi
   split at h
   ·rename_i e hse
    have hus:=(C.okL.at hsi).slice hse
    split at h
    ·rename_i ei hei
     split at h
     ·rename_i heu
      have hue:=(C.okL.at hei).int heu
      split at h
      ·rename_i p n c hx
       obtain ⟨v,hk,hrun⟩:=h.use
       exact ⟨v,hk,fun w hw=>by
        obtain ⟨hd,hr'⟩:=hrun w hw c
        simp [execOp,hr.eval hx,convert,run_underlying hus,run_underlying hue,run_underlying hd,hr']⟩
      ·exact h.elim
     ·exact h.elim
    ·exact h.elim
   ·obtain ⟨v,h1,h2⟩:=cM6 (o:=⟨dst,.convert s d x,type,pos,after,guard⟩) hr h
    exact ⟨v,h1,fun w _=>h2 w⟩
  ·exact h.elim
 ·rename_i it
  unfold kP9 at h
  split at h
  ·rename_i b hx
   cases h with
   |@mk bm since clock seen es x u1 u2 r1 r2 h1 h2 hs hf hk=>
    refine ⟨_,hk,fun w hw=>?_⟩
    have g1:w.heap[b]? =some (.mapIter (some bm) since seen clock):=hw.own _ h1.mem
    have g2:w.heap[bm]? =some (.map es clock):=hw.own _ h2.mem
    simp [execOp,hr.eval hx,Instr.entry,getObj,Sem.run,g1,g2,hs,hf]
  ·exact h.elim
 ·rename_i args ts
  split at h
  ·have hp:gM6 C (.call {callee:=.builtin .len,args:=args,argTypes:=ts}) env k:=h
   obtain ⟨v,h1,h2⟩:=cM6 (o:=⟨dst,.call {callee:=.builtin .len,args:=args,argTypes:=ts},type,pos,after,guard⟩) hr hp
   exact ⟨v,h1,fun w _=>h2 w⟩
  ·split at h
   rotate_left
   ·unfold lW2 at h
    split at h
    ·rename_i t hts
     have hts':ts=#[t]:=QQ.1 (by simpa using hts)
     subst hts'
     cases h1:hR1 C.L t with
     |none=>simp [h1] at h
     |some et=>
      obtain ⟨kt,et⟩:=et
      simp only [h1] at h
      have hm:=bL6 C.okL h1
      split at h
      ·rename_i b h2
       cases h with
       |@mk m u r hat hk=>
        refine ⟨_,hk,fun w hw=>?_⟩
        obtain ⟨es,clock,hb,hes⟩:=hw.own _ hat.mem
        have hsz:es.size=m.length:=by have:=congrArg List.length hes.1;simpa using this
        simp [execOp,resolve,invoke,builtin,bV6 hr h2,Builtin.len_,run_underlying hm,goInt,MapKept.run_getObj_map hb,hsz]
      ·exact h.elim
    ·exact h.elim
   unfold hF5 at h
   split at h
   ·rename_i t hts
    have hts':ts=#[t]:=QQ.1 (by simpa using hts)
    subst hts'
    cases h1:fC0 C.L t with
    |none=>simp [h1] at h
    |some et=>
     simp only [h1] at h
     obtain ⟨kt,hm,hkt⟩:=cV7 C.okL h1
     split at h
     ·rename_i h2
      exact ⟨_,h,fun w _=>by simp [execOp,resolve,invoke,builtin,bV6 hr h2,Builtin.len_,run_underlying hm,goInt]⟩
     ·rename_i b h2
      obtain ⟨m,hk,hmap⟩:=h.use
      ·refine ⟨_,hk,fun w hw=>?_⟩
       obtain ⟨es,clock,hb,hes⟩:=hmap w hw
       have hsz:(es.size:Int)=m.length:=by have:=congrArg List.length hes.1;simp at this;omega
       simp [execOp,resolve,invoke,builtin,bV6 hr h2,Builtin.len_,run_underlying hm,goInt,MapKept.run_getObj_map hb,hsz]
     ·exact h.elim
   ·exact h.elim
 ·exact h.elim
end Go.Vx
end
section
set_option linter.unusedSimpArgs false
set_option linter.unusedVariables false
namespace Go.Vx
open Go Go.RowKit
inductive VNew (k:Nat->Prop):Prop
 |mk (h:∀b,k b)
def mP8 (env:Env)(H:HP)(e:TypeId)(x:Operand)(K:Value->HP->Prop):Prop:=
 match ev env x with
 |some v=>VNew fun b=>K (.pointer (some ⟨b,0,none⟩)) (.row b e (bX3 v)::H)
 |none=>False
def kD8 (L:Lay)(H:HP)(e:TypeId)(K:Value->HP->Prop):Prop:=
 match lay L e with
 |some ei=>VNew fun b=>K (.pointer (some ⟨b,0,none⟩)) (.row b e (bX3 ei.zero)::H)
 |none=>False
def bB1 (zs:List Value):Nat->List Value
 |0=>[]
 |n+1=>zs++bB1 zs n
def dB9 (L:Lay)(env:Env)(H:HP)(t:TypeId)(len:Nat)(parts:List (Nat×Operand))(K:Value->HP->Prop):Prop:=
 match lay L t with
 |some ti=>
  match ti.td with
  | .slice e=>
   match lay L e with
   |some ei=>
    match evp env parts with
    |some ps=>
     match Nat.beq (dF9 (bX3 ei.zero)) ei.size with
     |true=>
      match Nat.ble (len*ei.size+len) 1000 with
      |true=>
       match fP5 ei.size ps (bB1 (bX3 ei.zero) len) with
       |some cs=>VNew fun b=>K (.slice (some ⟨b,0,none⟩) len len) (.vec (some ⟨b,0,none⟩) len len e ei.size cs::H)
       |none=>False
      |false=>False
     |false=>False
    |none=>False
   |none=>False
  |_=>False
 |none=>False
inductive VMk (bytes:Nat) (l c:Int) (k:Nat->Prop):Prop
 |mk (h1:0<=l) (h2:l<=c) (h3:bytes*c<=281474976710656) (h4:c<=9223372036854775807) (hk:∀b,k b)
def dT2 (L:Lay)(env:Env)(H:HP)(t:TypeId)(x y:Operand)(K:Value->HP->Prop):Prop:=
 match lay L t with
 |some ti=>
  match ti.td with
  | .slice e=>
   match lay L e with
   |some ei=>
    match Nat.beq (dF9 (bX3 ei.zero)) ei.size with
    |true=>
     match ev env x with
     |some (.int _ l)=>
      match ev env y with
      |some (.int _ c)=>
       VMk ei.bytes l c fun b=>K (.slice (some ⟨b,0,none⟩) l.toNat c.toNat) (.vec (some ⟨b,0,none⟩) l.toNat c.toNat e ei.size (bB1 (bX3 ei.zero) l.toNat)::H)
      |_=>False
     |_=>False
    |false=>False
   |none=>False
  |_=>False
 |none=>False
def gG4 (H:HP)(K:Value->HP->Prop):Prop:=VNew fun b=>K (.map (some b)) (.map b []::H)
def bK6:List Value->Bool
 |[]=>true
 |v::r=>
  match v.oneCell' with
  |true=>bK6 r
  |false=>false
theorem cX2:∀{vs:List Value},bK6 vs=true->∀v∈vs,v.oneCell'=true
 |[],_,v,hv=>by simp at hv
 |x::r,h,v,hv=>by
  simp only [bK6] at h
  cases hx:x.oneCell' with
  |false=>simp [hx] at h
  |true=>
   simp only [hx] at h
   simp only [qQ] at hv
   rcases hv with rfl|hv
   ·exact hx
   ·exact cX2 h v hv
inductive VSt (H:HP) (b off:Nat) (vs:List Value) (k:HP->Prop):Prop
 |row {e:TypeId} {cs cs':List Value} {u:Ent->HP} {r:HP} (hat:At H (.row b e cs) u r) (h:upd cs off vs=some cs') (h1:bK6 vs=true) (hk:k (u (.row b e cs')))
 |vec {n cap e size:Nat} {xs xs':List Value} {u:Ent->HP} {r:HP} (hat:At H (.vec (some ⟨b,0,none⟩) n cap e size xs) u r) (h:upd xs off vs=some xs') (h1:bK6 vs=true) (hk:k (u (.vec (some ⟨b,0,none⟩) n cap e size xs')))
def kB3 (L:Lay)(env:Env)(H:HP)(t:TypeId)(x y:Operand)(K:Value->HP->Prop):Prop:=
 match ev env x with
 |some (.pointer (some ⟨b,off,none⟩))=>
  match ev env y with
  |some v=>
   match lay L t with
   |some ti=>
    match Nat.beq (dF9 (bX3 v)) ti.size with
    |true=>
     VSt H b off (bX3 v) fun H'=>K undef H'
    |false=>False
   |none=>False
  |none=>False
 |_=>False
inductive VMpU (H:HP) (b:Nat) (k:List (Int×Value)->(Ent->HP)->Prop):Prop
 |mk {m:List (Int×Value)} {u:Ent->HP} {r:HP} (hat:At H (.map b m) u r) (hk:k m u)
def fX0 (L:Lay)(env:Env)(H:HP)(t:TypeId)(m i x:Operand)(K:Value->HP->Prop):Prop:=
 match fC0 L t with
 |some _=>
  match ev env m with
  |some (.map (some b))=>
   match ev env i with
   |some (.int .i64 j)=>
    match ev env x with
    |some v=>VMpU H b fun mm u=>K undef (u (.map b (cB4 mm j v)))
    |none=>False
   |_=>False
  |_=>False
 |none=>False
inductive VUpK (P:Program) (kt:TypeId) (H:HP) (b:Nat) (x v:Value) (k:HP->Prop):Prop
 |mk {m:List (Value×Value)} {u:Ent->HP} {r:HP} (hat:At H (.mapk b m) u r) (hl:WideMaps.KeyLaw P kt) (hx:∃l,keyOf P kt x=some l) (hall:∀p∈m,∃l,keyOf P kt p.1=some l)
   (h0:(∀p∈m,p.1≠x)->k (u (.mapk b (m++[(x,v)])))) (h1:∀(j:Nat) v0,m[j]? =some (x,v0)->k (u (.mapk b (m.set j (x,v)))))
def dJ5 (P:Program)(L:Lay)(env:Env)(H:HP)(t:TypeId)(m i x:Operand)(K:Value->HP->Prop):Prop:=
 match hR1 L t with
 |some (kt,_)=>
  match ev env m with
  |some (.map (some b))=>
   match ev env i with
   |some key=>
    match ev env x with
    |some v=>VUpK P kt H b key v fun H'=>K undef H'
    |none=>False
   |none=>False
  |_=>False
 |none=>False
def fB0 (H:HP)(K:Value->HP->Prop):Prop:=VNew fun b=>K (.map (some b)) (.mapk b []::H)
def hD7 (L:Lay)(env:Env)(H:HP)(args:List Operand)(ts:List TypeId)(K:Value->HP->Prop):Prop:=
 match ts with
 |t::_=>
  match fC0 L t with
  |some _=>
   match evs env args with
   |some [.map (some b),.int .i64 j]=>VMpU H b fun mm u=>K (.tuple #[]) (u (.map b (kK1 mm j)))
   |_=>False
  |none=>False
 |[]=>False
inductive VMpE (P:Program) (kt:TypeId) (z:Value) (H:HP) (b:Nat) (x:Value) (K:Value->HP->Prop):Prop
 |mk {m:List (Value×Value)} {u:Ent->HP} {r:HP} (hat:At H (.mapk b m) u r) (hl:WideMaps.KeyLaw P kt) (hx:∃l,keyOf P kt x=some l) (hall:∀p∈m,∃l,keyOf P kt p.1=some l)
   (h0:(∀p∈m,p.1≠x)->∀(es:Array MapEntry) (clock st:Nat),es.toList.map (fun x=>(x.key,x.val))=m++[(x,z)]->MapKept.Stamped es clock->(∃e,es.toList[m.length]? =some e/\e.born=st)->K (.tuple #[z,.int .i64 (st:Int)]) (u (.obj b (.map es clock))))
   (h1:∀(j:Nat) v,m[j]? =some (x,v)->∀(es:Array MapEntry) (clock st:Nat),es.toList.map (fun x=>(x.key,x.val))=m->MapKept.Stamped es clock->(∃e,es.toList[j]? =some e/\e.born=st)->K (.tuple #[v,.int .i64 (st:Int)]) (u (.obj b (.map es clock))))
def fH9 (P:Program)(L:Lay)(env:Env)(H:HP)(t:TypeId)(m i:Operand)(K:Value->HP->Prop):Prop:=
 match hR1 L t with
 |some (kt,et)=>
  match lay L et with
  |some ei=>
   match ev env m with
   |some (.map (some b))=>
    match ev env i with
    |some key=>VMpE P kt ei.zero H b key K
    |none=>False
   |_=>False
  |none=>False
 |none=>False
inductive VEnS (H:HP) (b:Nat) (st:Int) (v:Value) (k:HP->Prop):Prop
 |mk {es:Array MapEntry} {clock:Nat} {m:List (Value×Value)} {u:Ent->HP} {r:HP} {j:Nat} {e:MapEntry} (hat:At H (.obj b (.map es clock)) u r) (hm:es.toList.map (fun x=>(x.key,x.val))=m) (hs:MapKept.Stamped es clock)
   (hj:es.toList[j]? =some e) (hb:(e.born:Int)=st) (hk:k (u (.mapk b (m.set j (e.key,v)))))
def dH9 (env:Env)(H:HP)(m s x:Operand)(K:Value->HP->Prop):Prop:=
 match ev env m with
 |some (.map (some b))=>
  match ev env s with
  |some (.int .i64 st)=>
   match ev env x with
   |some v=>VEnS H b st v fun H'=>K undef H'
   |none=>False
  |_=>False
 |_=>False
inductive VDlK (P:Program) (kt:TypeId) (H:HP) (b:Nat) (x:Value) (k:HP->Prop):Prop
 |mk {m:List (Value×Value)} {u:Ent->HP} {r:HP} (hat:At H (.mapk b m) u r) (hl:WideMaps.KeyLaw P kt) (hx:∃l,keyOf P kt x=some l) (hall:∀p∈m,∃l,keyOf P kt p.1=some l)
   (h0:(∀p∈m,p.1≠x)->k (u (.mapk b m))) (h1:∀(j:Nat) v0,m[j]? =some (x,v0)->k (u (.mapk b (m.eraseIdx j))))
def gH4 (P:Program)(L:Lay)(env:Env)(H:HP)(args:List Operand)(ts:List TypeId)(K:Value->HP->Prop):Prop:=
 match ts with
 |t::_=>
  match hR1 L t with
  |some (kt,_)=>
   match evs env args with
   |some [.map (some b),key]=>VDlK P kt H b key fun H'=>K (.tuple #[]) H'
   |_=>False
  |none=>False
 |[]=>False
inductive Src (w0:World) (M:List Nat) (H:HP):Option Addr->Nat->Nat->List Value->Prop
 |empty {size:Nat}:Src w0 M H none 0 size []
 |none0 {a:Addr} {size:Nat}:Src w0 M H (some a) 0 size []
 |at_ {b off m size:Nat} {news:List Value} (h:Rd w0 M H b off (m*size) news):Src w0 M H (some ⟨b,off,none⟩) m size news
inductive VAp (w0:World) (M:List Nat) (H:HP) (p:Option Addr) (n cap e size bytes:Nat) (q:Option Addr) (m:Nat) (K:Value->HP->Prop):Prop
 |own {xs news:List Value} {u:Ent->HP} {r:HP} (hat:At H (.vec p n cap e size xs) u r) (hs:Src w0 M H q m size news) (h1:∀v∈news,v.oneCell'=true)
   (hb:(n+m)*bytes<=140737488355328) (h63:n+m<=maxLen) (hk:∀p' cap',(0<n+m->∃b,p'=some ⟨b,0,none⟩)->K (.slice p' (n+m) cap') (.vec p' (n+m) cap' e size (xs++news)::r))
 |nil {news:List Value} (hp:p=none) (hn:n=0) (hc:cap=0) (hs:Src w0 M H q m size news) (h1:∀v∈news,v.oneCell'=true)
   (hb:m*bytes<=140737488355328) (h63:m<=maxLen) (hk:∀p' cap',(0<m->∃b,p'=some ⟨b,0,none⟩)->K (.slice p' m cap') (.vec p' m cap' e size news::H))
 |self {N off b:Nat} {xs news:List Value} {u:Ent->HP} {r:HP} (hat:At H (.vec p N cap e size xs) u r) (hp:p=some ⟨b,0,none⟩) (hq:q=some ⟨b,off,none⟩)
   (hnews:(xs.drop off).take (m*size)=news) (hl:news.length=m*size) (hr:n+m<=N) (h1:∀v∈news,v.oneCell'=true)
   (hk:K (.slice p (n+m) cap) (u (.vec p N cap e size (xs.take (n*size)++news++xs.drop (n*size+m*size)))))
 |tail {b d N capB:Nat} {xs news:List Value} {u:Ent->HP} {r:HP} (hat:At H (.vec (some ⟨b,0,none⟩) N capB e size xs) u r) (hp:p=some ⟨b,d*size,none⟩) (hc:cap=capB - d) (hd:d+n=N) (hs:Src w0 M H q m size news) (h1:∀v∈news,v.oneCell'=true)
   (hb:(n+m)*bytes<=140737488355328) (h63:n+m<=maxLen) (hk1:N+m<=capB->K (.slice p (n+m) cap) (.vec (some ⟨b,0,none⟩) (N+m) capB e size (xs++news)::r))
   (hk2:∀b' cap',n+m<=cap'->K (.slice (some ⟨b',0,none⟩) (n+m) cap') (.vec (some ⟨b',0,none⟩) (n+m) cap' e size (xs.drop (d*size)++news)::r))
 |zero {news:List Value} (hn:n=0) (hc:cap=0) (hm:0<m) (hs:Src w0 M H q m size news) (h1:∀v∈news,v.oneCell'=true) (hb:m*bytes<=140737488355328) (h63:m<=maxLen)
   (hk:∀b' cap',m<=cap'->K (.slice (some ⟨b',0,none⟩) m cap') (.vec (some ⟨b',0,none⟩) m cap' e size news::H))
inductive VApZ (H:HP) (p:Option Addr) (n cap e size bytes:Nat) (zs:List Value) (j:Int) (K:Value->HP->Prop):Prop
 |nil {m:Nat} (hp:p=none) (hn:n=0) (hc:cap=0) (hj:j=(m:Int)) (h0:0<m) (hb:m*bytes<=140737488355328) (h63:m<=maxLen)
   (hk:∀b cap',m<=cap'->K (.slice (some ⟨b,0,none⟩) m cap') (.vec (some ⟨b,0,none⟩) m cap' e size (bB1 zs m)::H))
def hC1 (L:Lay)(w0:World)(M:List Nat)(env:Env)(H:HP)(args:List Operand)(ts:List TypeId)(K:Value->HP->Prop):Prop:=
 match ts with
 |[t,t']=>
  match Nat.beq t t' with
  |true=>
   match lay L t with
   |some ti=>
    match ti.td with
    | .slice e=>
     match lay L e with
     |some ei=>
      match Nat.beq (dF9 (bX3 ei.zero)) ei.size with
      |true=>
       match Nat.ble 1 ei.size with
       |true=>
        match evs env args with
        |some [.slice p n cap,.slice q m _]=>VAp w0 M H p n cap e ei.size ei.bytes q m K
        |_=>False
       |false=>False
      |false=>False
     |none=>False
    |_=>False
   |none=>False
  |false=>
   match lay L t with
   |some ti=>
    match ti.td with
    | .slice e=>
     match lay L e with
     |some ei=>
      match lay L t' with
      |some ti'=>
       match ti'.td with
       | .int _=>
        match Nat.beq (dF9 (bX3 ei.zero)) ei.size with
        |true=>
         match Nat.ble 1 ei.size with
         |true=>
          match evs env args with
          |some [.slice p n cap,.int _ j]=>VApZ H p n cap e ei.size ei.bytes (bX3 ei.zero) j K
          |_=>False
         |false=>False
        |false=>False
       |_=>False
      |none=>False
     |none=>False
    |_=>False
   |none=>False
 |_=>False
inductive VCp (w0:World) (M:List Nat) (H:HP) (p:Option Addr) (n cap e size:Nat) (q:Option Addr) (m:Nat) (K:Value->HP->Prop):Prop
 |own {xs news:List Value} {u:Ent->HP} {r:HP} (hat:At H (.vec p n cap e size xs) u r) (hs:Src w0 M H q (min m n) size news) (h1:∀v∈news,v.oneCell'=true)
   (hk:K (.int .i64 (min m n:Nat)) (u (.vec p n cap e size (news++xs.drop (min m n*size)))))
 |zero (h:min m n=0) (hk:K (.int .i64 0) H)
 |into {b off:Nat} {news:List Value} (hp:p=some ⟨b,off,none⟩) (hs:Src w0 M H q (min m n) size news) (h:VSt H b off news (K (.int .i64 (min m n:Nat))))
def lM4 (L:Lay)(w0:World)(M:List Nat)(env:Env)(H:HP)(args:List Operand)(ts:List TypeId)(K:Value->HP->Prop):Prop:=
 match ts with
 |[t,_]=>
  match lay L t with
  |some ti=>
   match ti.td with
   | .slice e=>
    match lay L e with
    |some ei=>
     match evs env args with
     |some [.slice p n cap,.slice q m _]=>VCp w0 M H p n cap e ei.size q m K
     |_=>False
    |none=>False
   |_=>False
  |none=>False
 |_=>False
inductive VCl (H:HP) (p:Option Addr) (n cap e size:Nat) (zs:List Value) (K:Value->HP->Prop):Prop
 |own {xs:List Value} {u:Ent->HP} {r:HP} (hat:At H (.vec p n cap e size xs) u r) (hk:K (.tuple #[]) (u (.vec p n cap e size (bB1 zs n))))
 |part {b off:Nat} (hp:p=some ⟨b,off,none⟩) (hn:0<n) (h:VSt H b off (bB1 zs n) (K (.tuple #[])))
def kD1 (L:Lay)(env:Env)(H:HP)(args:List Operand)(ts:List TypeId)(K:Value->HP->Prop):Prop:=
 match ts with
 |[t]=>
  match lay L t with
  |some ti=>
   match ti.td with
   | .slice e=>
    match lay L e with
    |some ei=>
     match Nat.beq (dF9 (bX3 ei.zero)) ei.size with
     |true=>
      match bK6 (bX3 ei.zero) with
      |true=>
       match evs env args with
       |some [.slice p n cap]=>VCl H p n cap e ei.size (bX3 ei.zero) K
       |_=>False
      |false=>False
     |false=>False
    |none=>False
   |_=>False
  |none=>False
 |_=>False
inductive VCall (P:Program) (w0:World) (M:List Nat) (H:HP) (f:Nat) (args:List Value) (K:Value->HP->Prop):Prop
 |mk (h:∀w,St w0 M H w->Calls P f args.toArray w fun e w'=>∃v H',e=.returned v/\St w0 M H' w'/\K v H')
inductive VRgM (H:HP) (b:Nat) (k:Nat->HP->Prop):Prop
 |mk {m:List (Int×Value)} {u:Ent->HP} {r:HP} (hat:At H (.map b m) u r)
   (hk:∀es clock it,es.toList.map (fun x=>(x.key,x.val))=m.map (fun x=>(Value.int .i64 x.1,x.2))->MapKept.Stamped es clock->k it (.obj it (.mapIter (some b) clock #[] clock)::.obj b (.map es clock)::r))
 |mkK {m:List (Value×Value)} {u:Ent->HP} {r:HP} (hat:At H (.mapk b m) u r)
   (hk:∀es clock it,es.toList.map (fun x=>(x.key,x.val))=m->MapKept.Stamped es clock->k it (.obj it (.mapIter (some b) clock #[] clock)::.obj b (.map es clock)::r))
inductive VNxM (H:HP) (it:Nat) (K:Value->HP->Prop):Prop
 |mk {b since last clock:Nat} {seen:Array Nat} {es:Array MapEntry} {u1 u2:Ent->HP} {r1 r2:HP} (h1:At H (.obj it (.mapIter (some b) since seen last)) u1 r1) (h2:At H (.obj b (.map es clock)) u2 r2) (hold:∀x∈es.toList,x.born<since) (hsc:since<=last)
   (hend:(∀x∈es.toList,x.born∈seen)->K (.tuple #[.bool false]) H)
   (hgo:∀x∈es.toList,x.born∉seen->K (.tuple #[.bool true,x.key,x.val]) (u1 (.obj it (.mapIter (some b) since (seen.push x.born) clock))))
def kB9 (L:Lay)(env:Env)(H:HP)(t:TypeId)(x:Operand)(K:Value->HP->Prop):Prop:=
 match lay L t with
 |some ti=>
  match ti.td with
  | .map _ _=>
   match ev env x with
   |some (.map (some b))=>VRgM H b fun it H'=>K (.pointer (some ⟨it,0,none⟩)) H'
   |_=>False
  |_=>False
 |none=>False
def lV7 (env:Env)(H:HP)(it:Operand)(K:Value->HP->Prop):Prop:=
 match ev env it with
 |some (.pointer (some ⟨b,0,none⟩))=>VNxM H b K
 |_=>False
def lM7 (C:Cx)(w0:World)(M:List Nat)(env:Env)(H:HP)(f:Operand)(args:List Operand)(K:Value->HP->Prop):Prop:=
 match ev env f with
 |some (.func (.func g) first captured)=>
  match fL6 C.fns g with
  |true=>
   match evs env args with
   |some vs=>VCall C.P w0 M H g (first.toList++(vs++captured.toList)) K
   |none=>False
  |false=>False
 |_=>False
def lC5 (C:Cx)(w0:World)(M:List Nat)(H:HP)(op:Op)(env:Env)(K:Value->HP->Prop):Prop:=
 match op with
 | .box e x=>mP8 env H e x K
 | .alloc e=>kD8 C.L H e K
 | .buildSlice t len parts=>dB9 C.L env H t len parts.toList K
 | .makeSlice t l c=>dT2 C.L env H t l c K
 | .makeMap t none=>
  match fC0 C.L t with
  |some _=>gG4 H K
  |none=>fB0 H K
 | .store t x y=>kB3 C.L env H t x y K
 | .mapUpdate t m i x=>
  match fC0 C.L t with
  |some _=>fX0 C.L env H t m i x K
  |none=>dJ5 C.P C.L env H t m i x K
 | .insert t m i x=>
  match fC0 C.L t with
  |some _=>fX0 C.L env H t m i x K
  |none=>dJ5 C.P C.L env H t m i x K
 | .range t x=>kB9 C.L env H t x K
 | .next it false=>lV7 env H it K
 | .call {callee:=.builtin .append,args,argTypes}=>hC1 C.L w0 M env H args.toList argTypes.toList K
 | .call {callee:=.builtin .copy,args,argTypes}=>lM4 C.L w0 M env H args.toList argTypes.toList K
 | .call {callee:=.builtin .clear,args,argTypes}=>kD1 C.L env H args.toList argTypes.toList K
 | .call {callee:=.builtin .delete,args,argTypes}=>
  match kP4 C.L argTypes.toList with
  |true=>hD7 C.L env H args.toList argTypes.toList K
  |false=>gH4 C.P C.L env H args.toList argTypes.toList K
 | .call {callee:=.value f,args, .. }=>lM7 C w0 M env H f args.toList K
 | .mapEntry t m i=>fH9 C.P C.L env H t m i K
 | .entryStore _ m s x=>dH9 env H m s x K
 |_=>False
end Go.Vx
end
section
set_option linter.unusedSimpArgs false
set_option linter.unusedVariables false
namespace Go.Vx
open Go Go.RowKit
def lZ0 (w0:World)(M:List Nat)(o:Oper)(a:Act)(K:Value->HP->Prop)(a':Act)(w':World):Prop:=
 ∃v H',a'=a.put o.dst v/\St w0 M H' w'/\K v H'
def hT3:Exit->Act->World->Prop:=fun _ _ _=>False
section
variable {C : Cx} {n : Nat} {env : Env} {a : Act} {w0 w : World} {M : List Nat} {H : HP} {K : Value -> HP -> Prop}
theorem bJ0 {P:Program}{o:Oper}{v:Value}{w':World}{Q:Exit->Act->World->Prop}{X:Act->World->Prop}(hrun:(execOp a.eval o).run P w=.ok (.value v) w')(h:X (a.put o.dst v) w'):o.wp P a w X Q:=by
 unfold Oper.wp;rw [hrun];exact h
theorem cY1 {P:Program}{o:Oper}{w':World}{Q:Exit->Act->World->Prop}{X:Act->World->Prop}(hrun:(execOp a.eval o).run P w=.ok .skip w')(h:X (a.put o.dst undef) w'):o.wp P a w X Q:=by
 unfold Oper.wp;rw [hrun];exact h
theorem bT8 (hs:St w0 M H w){y:Ent}{o:Obj}(hy:∀w',w'.heap[w.heap.size]? =some o->y.sat w')(hid:∀b,y.id=some b->b=w.heap.size):St w0 M (y::H) (w.alloc o):=
 hs.new rfl rfl rfl oU (fun b hb=>RowKit.Below.heap_alloc w o b hb) (hy _ (heap_alloc_new w o)) (fun b hb=>by rw [hid b hb];exact qA _)
theorem bF3 (zs:List Value):∀n,(bB1 zs n).length=n*zs.length
 |0=>by simp [bB1]
 |n+1=>by simp [bB1,bF3 zs n,QD,Nat.add_comm]
theorem gY0 (zs:List Value)(hz:zs≠[]):∀(n i:Nat),i<n*zs.length->(bB1 zs n)[i]? =zs[i%zs.length]?
 |0,i,h=>by simp at h
 |n+1,i,h=>by
  have hp:0<zs.length:=QI.2 hz
  simp only [bB1,List.getElem?_append]
  split
  ·rename_i hlt;rw [jv hlt]
  ·rename_i hge
   rw [gY0 zs hz n (i - zs.length) (by rw [QD] at h;omega)]
   congr 1
   rw [Nat.mod_eq_sub_mod (a:=i) qZ]
theorem fX2 (z:Array Value)(n size:Nat)(hs:z.size=size):madeCells z (n*size)=(bB1 z.toList n).toArray:=by
 apply QQ.1
 apply qp
 intro i
 by_cases hn:n*size=0
 ·have:(bB1 z.toList n).length=0:=by rw [bF3];simp [hs,hn]
  have h2:=qF this
  simp [madeCells,hn,h2]
 ·have hz:z.toList≠[]:=by
   intro e
   have:z.size=0:=by simpa using congrArg List.length e
   simp [<-hs,this] at hn
  by_cases hi:i<n*size
  ·have hlen:z.toList.length=size:=by simpa using hs
   have hp:0<size:=by
    rcases Nat.eq_zero_or_pos size with h|h
    ·simp [h] at hn
    ·exact h
   have h1:=gY0 z.toList hz n i (by rw [hlen];exact hi)
   rw [hlen] at h1
   have hm:i%size<z.size:=by rw [hs];exact Nat.mod_lt _ hp
   simp [madeCells,hi,hs,h1,hm,getElem!_pos z (i%size) hm]
  ·have h1:(madeCells z (n*size)).toList.length=n*size:=by simp [madeCells]
   have h2:(bB1 z.toList n).length=n*size:=by rw [bF3];simp [hs]
   rw [qf qZ,qf (by simp only [QS];omega)]
theorem bV8 {b e size n cap:Nat}{cur:Array Value}{xs:List Value}(hg:w.heap[b]? =some (.cells cur e (0,0)))(h1:n<=cap)(h2:cap<=maxLen)(h3:cur.size=cap*size)(h4:cur.toList.take (n*size)=xs):
  (Ent.vec (some ⟨b,0,none⟩) n cap e size xs).sat w:=by
 refine ⟨?_,.inr ⟨b,cap,cur,rfl,qB _,hg,h1,h2,h3,h4⟩⟩
 rw [<-h4]
 have:=Qj size h1
 rw [qh,Array.length_toList,h3];omega
theorem cD5 {P:Program}{b off e:Nat}{cur:Array Value}{vs:List Value}(hg:w.heap[b]? =some (.cells cur e (0,0)))(hfit:off+vs.length<=cur.size)(h1:∀v∈vs,v.oneCell'=true):
  (storeCells ⟨b,off,none⟩ vs).run P w=.ok () (w.setRow b (cur.toList.take off++vs++cur.toList.drop (off+vs.length)).toArray):=by
 have:=run_storeCells_at P b off e vs 0 cur w hg (by simpa using hfit) h1
 simpa using this
theorem bN9 {y x:Ent}{r:HP}{b e:Nat}{cur new:Array Value}(hs:St w0 M (x::r) w)(hx:x.id=some b)(hyid:y.id=some b)(hg:w.heap[b]? =some (.cells cur e (0,0)))
  (hy:∀w',w'.heap[b]? =some (.cells new e (0,0))->y.sat w'):St w0 M (y::r) (w.setRow b new):=
 hs.step rfl rfl rfl oU (fun c hc hne=>setRow_other w b c new (fun e=>hne (by rw [hx,e]))) (hy _ (setRow_heap w b cur new e (0,0) hg)) (fun c hc=>.inl (by rw [hx,<-hyid];exact hc))
theorem VSt.use {P:Program}{b off:Nat}{vs:List Value}{k:HP->Prop}(hs:St w0 M H w)(h:VSt H b off vs k):
  ∃w' H',(storeCells ⟨b,off,none⟩ vs).run P w=.ok () w'/\St w0 M H' w'/\k H':=by
 cases h with
 |@row e cs cs' u r hat h g1 hk=>
  have h1:=cX2 g1
  have hrow:w.heap[b]? =_:=hs.own _ hat.mem
  obtain ⟨h5,h6⟩:=cQ5 _ _ _ _ h
  refine ⟨_,_,cD5 hrow (by simpa using h5) h1,hs.turn hat (y:=.row b e cs') fun hs'=>?_,hk⟩
  refine bN9 hs' rfl rfl hrow fun w' hw'=>?_
  show w'.heap[b]? =_
  rw [hw',h6]
 |@vec m cap e size xs xs' u r hat h g1 hk=>
  have h1:=cX2 g1
  obtain ⟨g,cur,hg,hh,hn,hc,hsz,ht,hl⟩:=bW7 (hs.own _ hat.mem)
  cases hg
  obtain ⟨h5,h6⟩:=cQ5 _ _ _ _ h
  have hle:m*size<=cap*size:=Qj _ hn
  refine ⟨_,_,cD5 hh (by rw [hsz];omega) h1,hs.turn hat (y:=.vec (some ⟨b,0,none⟩) m cap e size xs') fun hs'=>?_,hk⟩
  refine bN9 hs' rfl rfl hh fun w' hw'=>?_
  refine bV8 hw' hn hc ?_ ?_
  ·simp [hsz];omega
  ·rw [h6,<-ht]
   have hcl:cur.toList.length=cap*size:=by simpa using hsz
   apply qp
   intro i
   simp only [Qt,List.getElem?_append,qh,Qy,qw,QS]
   have m1:min off cur.toList.length=off:=by omega
   have m2:min (m*size) cur.toList.length=m*size:=by omega
   have m3:min off (m*size)=off:=by omega
   simp only [m1,m2,m3]
   by_cases hi:i<m*size
   ·by_cases h8:i<off+vs.length
    ·simp [hi,h8]
    ·simp [hi,h8,show off+vs.length+(i - (off+vs.length))=i from by omega]
   ·have h8:¬i<off+vs.length:=by omega
    simp [hi,h8,show off+vs.length+(i - (off+vs.length))=i from by omega]
theorem Src.use (hs:St w0 M H w){q:Option Addr}{m size:Nat}{news:List Value}(h:Src w0 M H q m size news):
  (q=none/\m=0/\news=[])\/∃a,q=some a/\news.length=m*size/\∀(j:Nat) (v:Value),news[j]? =some v->w.cell? (a.add j)=some v:=by
 cases h with
 |empty=>exact .inl ⟨rfl,rfl,rfl⟩
 |@none0 a size=>exact .inr ⟨a,rfl,by simp,fun j v hj=>by simp at hj⟩
 |at_ h=>exact .inr ⟨_,rfl,h.len,fun j v hj=>by rw [cZ8];exact h.use hs j v hj⟩
theorem dW1 {x y:Ent}{r:HP}{o:Obj}(hs:St w0 M (x::r) w)(hy:∀w',w'.heap[w.heap.size]? =some o->y.sat w')(hid:∀b,y.id=some b->b=w.heap.size):St w0 M (y::r) (w.drew.alloc o):=by
 refine hs.step rfl rfl rfl oU (fun b hb _=>RowKit.Below.heap_alloc w.drew o b hb) (hy _ ?_) (fun b hb=>.inr (by rw [hid b hb];exact qA _))
 exact heap_alloc_new w.drew o
theorem cW4 {w':World}{b nn e size cap:Nat}{xs:List Value}{z:Array Value}(hz:z.size=size)(hl:xs.length=nn*size)(h1:nn<=cap)(h2:cap<=maxLen)
  (hg:w'.heap[b]? =some (.cells (xs.toArray++Builtin.zeroCells z (cap - nn)) e (0,0))):(Ent.vec (some ⟨b,0,none⟩) nn cap e size xs).sat w':=by
 refine bV8 hg h1 h2 ?_ ?_
 ·simp only [Array.size_append,List.size_toArray,size_zeroCells,hz,hl,<-QD]
  congr 1;omega
 ·simp only [Array.toList_append,QS,<-hl]
  exact List.take_left
theorem cS6 {P:Program}{t ty e:TypeId}{i:TypeInfo}{ei:TI}(hu:P.underlying t=some (.slice e))(hi:P.info? e=some i)(hi1:i.size=ei.size)(hi2:i.bytes=ei.bytes)(hz:i.zero=some ei.zero)
  (hzs:ei.zero.cells.size=ei.size) {p q:Option Addr} {nn cap m c:Nat} {xs news:List Value} {r:HP} (hs:St w0 M (.vec p nn cap e ei.size xs::r) w)
  (hsrc:Src w0 M H q m ei.size news) (hH:St w0 M H w) (h1:∀v∈news,v.oneCell'=true) (hb:(nn+m)*ei.bytes<=140737488355328) (h63:nn+m<=maxLen):
  ∃p' cap' w',(Builtin.append_ #[t,t] ty #[.slice p nn cap,.slice q m c]).run P w=.ok (.slice p' (nn+m) cap') w'/\St w0 M (.vec p' (nn+m) cap' e ei.size (xs++news)::r) w':=by
 have hown:w.ownsRow 0 e ei.size (.slice p nn cap) nn xs:=hs.own (.vec p nn cap e ei.size xs) oU
 have h63':nn+m<=9223372036854775807:=by simpa [maxLen] using h63
 have hnc:nn<=cap:=by
  rcases hown.2 with ⟨h3,h4⟩|⟨g,c',cur,h3,_,_,h4,_⟩
  ·cases h3;exact qA _
  ·cases h3;exact h4
 rcases hsrc.use hH with ⟨rfl,rfl,rfl⟩|⟨qa,rfl,hl,hnews⟩
 ·refine ⟨p,cap,w,?_,by simpa using hs⟩
  cases p<;>simp [Builtin.append_,run_underlying hu,sizeOf,typeInfo,hi,Builtin.lenOf,Builtin.firstCells,hnc,storeCells]
 ·have hl':news.length=m*i.size:=by rw [hi1];exact hl
  have hge:=grownCap_ge w (nn+m) cap e
  have hcm:=grownCap_le_maxLen w (nn+m) cap e h63
  have hlen:(xs++news).length=(nn+m)*ei.size:=by rw [qw,hown.1,hl,QD]
  rcases hown.2 with ⟨hv,hn0⟩|⟨g,c',cur,hv,_,hg,_,hcm',hcs,htake⟩
  ·simp only [Value.slice.injEq] at hv
   obtain ⟨rfl,rfl,rfl⟩:=hv
   have hx:xs=[]:=qF (by simpa using hown.1)
   subst hx
   by_cases hm:m=0
   ·subst hm
    have hn:news=[]:=qF (by simpa using hl)
    subst hn
    refine ⟨none,0,w,?_,by simpa using hs⟩
    simp [Builtin.append_,run_underlying hu,sizeOf,typeInfo,hi,Builtin.lenOf,Builtin.firstCells,loadCells,loadCellsFrom]
   ·have hr:=run_append_nil (P:=P) w t ty e i ei.zero hu hi hz qa m c news hl' hnews qZ qZ (by rw [hi2];simp only [Qo] at hb;omega)
    simp only [Qo,Qc] at hge hcm hlen ⊢
    exact ⟨_,_,_,hr,dW1 hs (fun w' hw'=>cW4 hzs hlen hge hcm hw') (by simp [Ent.id])⟩
  ·simp only [Value.slice.injEq] at hv
   obtain ⟨rfl,_,rfl⟩:=hv
   by_cases hroom:nn+m<=cap
   ·have hfit:nn*i.size+news.length<=cur.size:=by rw [hl',hcs,hi1,<-QD];exact Qj _ hroom
    have hr:=run_append_room (P:=P) w t ty e i hu hi g nn cap cur hg qa m c news hl' hnews h1 hroom hfit
    refine ⟨_,_,_,hr,bN9 hs rfl rfl hg fun w' hw'=>?_⟩
    refine bV8 hw' hroom hcm' ?_ ?_
    ·simp only [List.size_toArray,qw,qh,Qs,Array.length_toList];omega
    ·rw [hi1,htake,QS,<-hlen];exact List.take_left
   ·have holds:∀(j:Nat) (v:Value),xs[j]? =some v->w.cell? ((⟨g,0,none⟩:Addr).add j)=some v:=hown.cells (g:=g) rfl
    have hr:=run_append_grow (P:=P) w t ty e i ei.zero hu hi hz ⟨g,0,none⟩ nn cap xs (by rw [hi1];exact hown.1) holds qa m c news hl' hnews qZ qZ (growslice_fits qZ (by rw [hi2];exact hb))
    refine ⟨_,_,_,hr,dW1 hs (fun w' hw'=>cW4 hzs hlen hge hcm ?_) (by simp [Ent.id])⟩
    rw [hw'];simp
theorem fY4 {P:Program}(w:World)(t ty e:TypeId)(i:TypeInfo)(ht:P.underlying t=some (.slice e))(hi:P.info? e=some i)
  (g off sLen sCap:Nat) (cur:Array Value) (hg:w.heap[g]? =some (.cells cur e (0,0)))
  (a:Addr) (m c:Nat) (news:List Value) (hl:news.length=m*i.size) (hnews:∀(j:Nat) (u:Value),news[j]? =some u->w.cell? (a.add j)=some u) (h1:∀u∈news,u.oneCell'=true)
  (hroom:sLen+m<=sCap) (hfit:off+sLen*i.size+news.length<=cur.size):
  (Builtin.append_ #[t,t] ty #[.slice (some ⟨g,off,none⟩) sLen sCap,.slice (some a) m c]).run P w=
   .ok (.slice (some ⟨g,off,none⟩) (sLen+m) sCap) (w.setRow g (cur.toList.take (off+sLen*i.size)++news++cur.toList.drop (off+sLen*i.size+news.length)).toArray):=by
 have hf:=run_firstCells_some (P:=P) w i.size m a m c news hl hnews
 have hst:=run_storeCells_at P g (off+sLen*i.size) e news 0 cur w hg (by simpa using hfit) h1
 simp only [Nat.add_zero] at hst
 simp [Builtin.append_,run_underlying ht,sizeOf,typeInfo,hi,Builtin.lenOf,hroom,hf,Addr.add_lit,hst]
theorem gZ9 {P:Program}{t ty e:TypeId}{i:TypeInfo}{ei:TI}(hu:P.underlying t=some (.slice e))(hi:P.info? e=some i)(hi1:i.size=ei.size)(hi2:i.bytes=ei.bytes)(hz:i.zero=some ei.zero)
  (hzs:ei.zero.cells.size=ei.size) {q:Option Addr} {b d nn N cap m c:Nat} {xs news:List Value} {r:HP} (hs:St w0 M (.vec (some ⟨b,0,none⟩) N cap e ei.size xs::r) w) (hd:d+nn=N)
  (hsrc:Src w0 M H q m ei.size news) (hH:St w0 M H w) (h1:∀v∈news,v.oneCell'=true) (hb:(nn+m)*ei.bytes<=140737488355328) (h63:nn+m<=maxLen):
  (∃w',(Builtin.append_ #[t,t] ty #[.slice (some ⟨b,d*ei.size,none⟩) nn (cap - d),.slice q m c]).run P w=.ok (.slice (some ⟨b,d*ei.size,none⟩) (nn+m) (cap - d)) w'/\N+m<=cap/\St w0 M (.vec (some ⟨b,0,none⟩) (N+m) cap e ei.size (xs++news)::r) w')\/
  (∃b' cap' w',(Builtin.append_ #[t,t] ty #[.slice (some ⟨b,d*ei.size,none⟩) nn (cap - d),.slice q m c]).run P w=.ok (.slice (some ⟨b',0,none⟩) (nn+m) cap') w'/\nn+m<=cap'/\St w0 M (.vec (some ⟨b',0,none⟩) (nn+m) cap' e ei.size (xs.drop (d*ei.size)++news)::r) w'):=by
 have hown:w.ownsRow 0 e ei.size (.slice (some ⟨b,0,none⟩) N cap) N xs:=hs.own (.vec (some ⟨b,0,none⟩) N cap e ei.size xs) oU
 have h63':nn+m<=9223372036854775807:=by simpa [maxLen] using h63
 obtain ⟨g,cur,hg0,hg,hNc,hcm',hcs,htake,hxl⟩:=bW7 (hs.own (.vec (some ⟨b,0,none⟩) N cap e ei.size xs) oU)
 simp only [Addr.mk.injEq,and_true] at hg0
 subst hg0
 rcases hsrc.use hH with ⟨rfl,rfl,rfl⟩|⟨qa,rfl,hl,hnews⟩
 ·refine .inl ⟨w,?_,by omega,by simpa using hs⟩
  have hnc:nn<=cap - d:=by omega
  simp [Builtin.append_,run_underlying hu,sizeOf,typeInfo,hi,Builtin.lenOf,Builtin.firstCells,hnc,storeCells]
 ·have hl':news.length=m*i.size:=by rw [hi1];exact hl
  have hNs:d*ei.size+nn*ei.size=N*ei.size:=by rw [<-QD,hd]
  have hlo:(xs.drop (d*ei.size)).length=nn*ei.size:=by rw [Qs,hxl];omega
  have hge:=grownCap_ge w (nn+m) (cap - d) e
  have hcm:=grownCap_le_maxLen w (nn+m) (cap - d) e h63
  have hlen:(xs.drop (d*ei.size)++news).length=(nn+m)*ei.size:=by rw [qw,hlo,hl,QD]
  by_cases hroom:nn+m<=cap - d
  ·left
   have hcap:N+m<=cap:=by omega
   have hcs2:(N+m)*ei.size<=cur.size:=by rw [hcs];exact Qj _ hcap
   have hmN:(N+m)*ei.size=N*ei.size+m*ei.size:=QD ..
   have hr:=fY4 (P:=P) w t ty e i hu hi b (d*ei.size) nn (cap - d) cur hg qa m c news hl' hnews h1 hroom (by rw [hi1,hl];omega)
   refine ⟨_,hr,hcap,bN9 hs rfl rfl hg fun w' hw'=>?_⟩
   refine bV8 hw' hcap hcm' ?_ ?_
   ·simp only [List.size_toArray,qw,qh,Qs,Array.length_toList,hi1];omega
   ·rw [hi1,hNs,htake,QS,hmN,<-hl]
    have e1:(xs++news).length=N*ei.size+news.length:=by rw [qw,hxl]
    rw [<-e1]
    exact List.take_left
  ·right
   have holds:∀(j:Nat) (v:Value),(xs.drop (d*ei.size))[j]? =some v->w.cell? ((⟨b,d*ei.size,none⟩:Addr).add j)=some v:=fun j v hj=>by
    rw [Qy] at hj
    have:=hown.cells (g:=b) rfl _ _ hj
    rw [cZ8] at this ⊢
    simpa using this
   have hr:=run_append_grow (P:=P) w t ty e i ei.zero hu hi hz ⟨b,d*ei.size,none⟩ nn (cap - d) (xs.drop (d*ei.size)) (by rw [hi1];exact hlo) holds qa m c news hl' hnews qZ qZ (growslice_fits qZ (by rw [hi2];exact hb))
   refine ⟨_,_,_,hr,hge,dW1 hs (fun w' hw'=>cW4 hzs hlen hge hcm ?_) (by simp [Ent.id])⟩
   rw [hw'];simp
theorem gJ0 {P:Program}{t ty e:TypeId}{i:TypeInfo}{size:Nat}(hu:P.underlying t=some (.slice e))(hi:P.info? e=some i)(hi1:i.size=size)
  {b nn N cap m c off:Nat} {xs news:List Value} {u:Ent->HP} {r:HP} (hs:St w0 M H w) (hat:At H (.vec (some ⟨b,0,none⟩) N cap e size xs) u r)
  (hnews:(xs.drop off).take (m*size)=news) (hl:news.length=m*size) (hr:nn+m<=N) (h1:∀v∈news,v.oneCell'=true):
  ∃w',(Builtin.append_ #[t,t] ty #[.slice (some ⟨b,0,none⟩) nn cap,.slice (some ⟨b,off,none⟩) m c]).run P w=.ok (.slice (some ⟨b,0,none⟩) (nn+m) cap) w'/\St w0 M (u (.vec (some ⟨b,0,none⟩) N cap e size (xs.take (nn*size)++news++xs.drop (nn*size+m*size)))) w':=by
 obtain ⟨g,cur,hg,hh,hnc,hcm,hcs,ht,hlen⟩:=bW7 (hs.own _ hat.mem)
 simp only [Addr.mk.injEq,and_true] at hg
 subst hg
 have hNs:N*size<=cur.size:=by rw [hcs];exact Qj _ hnc
 have hnm:nn*size+m*size<=N*size:=by rw [<-QD];exact Qj _ hr
 have hr2:=run_append_room (P:=P) (w:=w) t ty e i hu hi b nn cap cur hh ⟨b,off,none⟩ m c news (by rw [hi1];exact hl) (fun j v hj=>by
  rw [<-hnews] at hj
  rw [Qt] at hj
  split at hj
  ·rw [Qy,<-ht,Qt] at hj
   split at hj
   ·rw [cZ8]
    simp only [World.cell?,hh]
    simpa using hj
   ·cases hj
  ·cases hj) h1 qZ (by rw [hi1,hl];omega)
 refine ⟨_,hr2,hs.turn hat fun hs'=>bN9 hs' rfl rfl hh fun w' hw'=>?_⟩
 refine bV8 hw' hnc hcm ?_ ?_
 ·simp only [List.size_toArray,qw,qh,Qs,Array.length_toList,hi1];omega
 ·rw [QS,hi1,hl,<-ht]
  have e1:((cur.toList.take (N*size)).take (nn*size))=cur.toList.take (nn*size):=by rw [List.take_take];congr 1;omega
  have e2:(cur.toList.take (N*size)).drop (nn*size+m*size)=(cur.toList.drop (nn*size+m*size)).take (N*size - (nn*size+m*size)):=List.drop_take ..
  rw [e1,e2,List.take_append,qe (by simp only [qw,qh,Array.length_toList];omega)]
  congr 2
  simp only [qw,qh,Array.length_toList];omega
theorem kG6 {P:Program}{t t' ty e:TypeId}{i:TypeInfo}{size:Nat}(hu:P.underlying t=some (.slice e))(hi:P.info? e=some i)(hi1:i.size=size)
  {p q:Option Addr} {nn cap m c:Nat} {k:Value->HP->Prop} (hs:St w0 M H w) (h:VCp w0 M H p nn cap e size q m k):
  ∃v w' H',(Builtin.copy_ #[t,t'] ty #[.slice p nn cap,.slice q m c]).run P w=.ok v w'/\St w0 M H' w'/\k v H':=by
 cases h with
 |@own xs news u r hat hsrc h1 hk=>
  have hs':=hs.perm hat.perm
  have hown:(Ent.vec p nn cap e size xs).sat w:=hs.own _ hat.mem
  rcases hsrc.use hs with ⟨rfl,hmn,rfl⟩|⟨qa,rfl,hl,hc⟩
  ·rw [hmn] at hk
   refine ⟨_,w,_,?_,?_,hk⟩
   ·have:Nat.min m nn=0:=hmn
    cases p<;>simp [Builtin.copy_,run_underlying hu,sizeOf,typeInfo,hi,Builtin.lenOf,Builtin.firstCells,storeCells,this,goInt]
   ·simp only [Qc,Nat.zero_mul,List.drop_zero]
    exact hs'.perm (hat.permU _).symm
  ·have hload:=run_loadCells_list (P:=P) w qa news hc
   rw [hl] at hload
   cases p with
   |none=>
    rcases hown.2 with ⟨hv,hn0⟩|⟨g,c',cur,hv,_⟩
    ·simp only [Value.slice.injEq] at hv
     obtain ⟨_,rfl,rfl⟩:=hv
     have hx:xs=[]:=qF (by simpa using hown.1)
     have hn:news=[]:=qF (by simpa using hl)
     subst hx;subst hn
     refine ⟨_,w,_,?_,?_,hk⟩
     ·have:Nat.min m 0=0:=by simp
      simp at hload
      simp [Builtin.copy_,run_underlying hu,sizeOf,typeInfo,hi,Builtin.lenOf,Builtin.firstCells,storeCells,this,goInt,hload]
     ·simpa using hs'.perm (hat.permU _).symm
    ·cases hv
   |some ad=>
    obtain ⟨g,cur,rfl,hg,hn,hcm,hcs,ht,hxl⟩:=bW7 hown
    have hle:min m nn<=nn:=Nat.min_le_right _ _
    have hle2:min m nn*size<=nn*size:=Qj _ hle
    have hle3:nn*size<=cap*size:=Qj _ hn
    have hst:=cD5 (P:=P) (off:=0) (vs:=news) hg (by rw [hl,hcs];omega) h1
    refine ⟨_,w.setRow g (List.take 0 cur.toList++news++List.drop (0+news.length) cur.toList).toArray,_,?_,hs.turn hat (y:=.vec (some ⟨g,0,none⟩) nn cap e size (news++xs.drop (min m nn*size))) fun hs''=>?_,hk⟩
    ·have hmm:Nat.min m nn=min m nn:=rfl
     simp [Builtin.copy_,run_underlying hu,sizeOf,typeInfo,hi,Builtin.lenOf,Builtin.firstCells,hmm,hi1,hload,hst,goInt]
    ·refine bN9 hs'' rfl rfl hg fun w' hw'=>?_
     refine bV8 hw' hn hcm ?_ ?_
     ·simp [hcs];omega
     ·have hcl:cur.toList.length=cap*size:=by simpa using hcs
      rw [<-ht]
      simp only [QU,Qc,Qo,QS,hl]
      apply qp
      intro j
      simp only [Qt,List.getElem?_append,hl,Qy]
      by_cases hj:j<nn*size
      ·by_cases hj2:j<min m nn*size
       ·simp [hj,hj2]
       ·simp [hj,hj2,show min m nn*size+(j - min m nn*size)=j from by omega]
      ·have hj2:¬j<min m nn*size:=by omega
       simp [hj,hj2,show min m nn*size+(j - min m nn*size)=j from by omega]
 |@into b off news hp hsrc hst=>
  subst hp
  have hmm:Nat.min m nn=min m nn:=rfl
  obtain ⟨w',H',hrun,hst',hk⟩:=hst.use (P:=P) hs
  rcases hsrc.use hs with ⟨rfl,hmn,rfl⟩|⟨qa,rfl,hl,hc⟩
  ·refine ⟨_,w',H',?_,hst',hk⟩
   have h0:Nat.min m nn=0:=hmn
   simp [Builtin.copy_,run_underlying hu,sizeOf,typeInfo,hi,Builtin.lenOf,Builtin.firstCells,h0,hmn,goInt,hrun]
  ·have hload:=run_loadCells_list (P:=P) w qa news hc
   rw [hl] at hload
   refine ⟨_,w',H',?_,hst',hk⟩
   simp [Builtin.copy_,run_underlying hu,sizeOf,typeInfo,hi,Builtin.lenOf,Builtin.firstCells,hmm,hi1,hload,hrun,goInt]
 |zero hmn hk=>
  refine ⟨_,w,_,?_,hs,hk⟩
  have:Nat.min m nn=0:=hmn
  cases p<;>cases q<;>simp [Builtin.copy_,run_underlying hu,sizeOf,typeInfo,hi,Builtin.lenOf,Builtin.firstCells,storeCells,this,goInt,loadCells,loadCellsFrom]
theorem dD1 {ei:TI}(hzs:ei.zero.cells.size=ei.size)(nn:Nat):(Builtin.zeroCells ei.zero.cells nn).toList=bB1 (bX3 ei.zero) nn:=by
 have:=fX2 ei.zero.cells nn ei.size hzs
 unfold madeCells at this
 unfold Builtin.zeroCells
 rw [hzs] at this ⊢
 rw [this,<-bX8]
theorem hM9 {P:Program}{t ty e:TypeId}{i:TypeInfo}{ei:TI}(hu:P.underlying t=some (.slice e))(hi:P.info? e=some i)(hi1:i.size=ei.size)(hz:i.zero=some ei.zero)(hzs:ei.zero.cells.size=ei.size)
  (h1:∀v∈bX3 ei.zero,v.oneCell'=true) {p:Option Addr} {nn cap:Nat} {k:Value->HP->Prop} (hs:St w0 M H w) (h:VCl H p nn cap e ei.size (bX3 ei.zero) k):
  ∃v w' H',(Builtin.clear_ #[t] ty #[.slice p nn cap]).run P w=.ok v w'/\St w0 M H' w'/\k v H':=by
 have hrep:(Builtin.zeroCells ei.zero.cells nn).toList=bB1 (bX3 ei.zero) nn:=by
  have:=fX2 ei.zero.cells nn ei.size hzs
  unfold madeCells at this
  unfold Builtin.zeroCells
  rw [hzs] at this ⊢
  rw [this,<-bX8]
 cases h with
 |@part b off hp hn h=>
  subst hp
  obtain ⟨w',H',h1,h2,h3⟩:=VSt.use (P:=P) hs h
  exact ⟨_,w',H',by simp [Builtin.clear_,run_underlying hu,show¬nn=0 from by omega,zeroValue,typeInfo,hi,hz,hrep,h1],h2,h3⟩
 |@own xs u r hat hk=>
  have hown:(Ent.vec p nn cap e ei.size xs).sat w:=hs.own _ hat.mem
  by_cases hn0:nn=0
  ·subst hn0
   have hx:xs=[]:=qF (by simpa using hown.1)
   subst hx
   refine ⟨_,w,_,?_,(hs.perm hat.perm).perm (hat.permU _).symm,by simpa [bB1] using hk⟩
   cases p<;>simp [Builtin.clear_,run_underlying hu]
  ·cases p with
   |none=>
    rcases hown.2 with ⟨hv,h0⟩|⟨g,c',cur,hv,_⟩
    ·exact absurd h0 hn0
    ·cases hv
   |some ad=>
    obtain ⟨g,cur,rfl,hg,hn,hcm,hcs,ht,hxl⟩:=bW7 hown
    have hle3:nn*ei.size<=cap*ei.size:=Qj _ hn
    have hzl:(bB1 (bX3 ei.zero) nn).length=nn*ei.size:=by rw [bF3,<-bX8];simp [hzs]
    have h1':∀v∈bB1 (bX3 ei.zero) nn,v.oneCell'=true:=by
     intro v hv
     have:∀n,v∈bB1 (bX3 ei.zero) n->v∈bX3 ei.zero:=by
      intro n
      induction n with
      |zero=>simp [bB1]
      |succ n ih=>simp only [bB1,qH];rintro (h|h);exact h;exact ih h
     exact h1 v (this nn hv)
    have hst:=cD5 (P:=P) (off:=0) (vs:=bB1 (bX3 ei.zero) nn) hg (by rw [hzl,hcs];omega) h1'
    refine ⟨_,w.setRow g (List.take 0 cur.toList++bB1 (bX3 ei.zero) nn++List.drop (0+(bB1 (bX3 ei.zero) nn).length) cur.toList).toArray,_,?_,hs.turn hat (y:=.vec (some ⟨g,0,none⟩) nn cap e ei.size (bB1 (bX3 ei.zero) nn)) fun hs''=>?_,hk⟩
    ·simp [Builtin.clear_,run_underlying hu,hn0,zeroValue,typeInfo,hi,hz,hrep,hst]
    ·refine bN9 hs'' rfl rfl hg fun w' hw'=>?_
     refine bV8 hw' hn hcm ?_ ?_
     ·simp [hcs,hzl];omega
     ·simp only [QU,Qc,QS,<-hzl];exact List.take_left
end
end Go.Vx
end
section
set_option linter.unusedSimpArgs false
set_option linter.unusedVariables false
namespace Go.Vx
open Go Go.RowKit
section
variable {C : Cx} {n : Nat} {env : Env} {a : Act} {w0 w : World} {M : List Nat} {H : HP} {K : Value -> HP -> Prop}
theorem gV6 {b:Nat}{m m':List (Int×Value)}{r:HP}{es':Array MapEntry}{clock':Nat}(hs:St w0 M (.map b m::r) w)
  (he:es'.toList.map (fun x=>(x.key,x.val))=m'.map (fun x=>(Value.int .i64 x.1,x.2))) (hst:MapKept.Stamped es' clock'):St w0 M (.map b m'::r) {w with heap:=w.heap.setIfInBounds b (.map es' clock')}:=by
 obtain ⟨es,clock,h1,h2⟩:=hs.own (.map b m) oU
 have hset:=MapKept.heap_set (o':=.map es' clock') h1
 refine hs.step rfl rfl rfl oU (fun c hc hne=>hset.2 c (fun e=>hne (by simp [Ent.id,e]))) ⟨es',clock',hset.1,he,hst⟩ (fun c hc=>.inl hc)
theorem fC6 {w:World}{p:Option Addr}{n cap e size:Nat}{xs:List Value}(h:(Ent.vec p n cap e size xs).sat w)(hn:0<n):∃b,p=some ⟨b,0,none⟩:=by
 cases p with
 |none=>
  obtain ⟨_,h2⟩:=h
  rcases h2 with ⟨_,h2⟩|⟨g,c,cur,hv,_⟩
  ·have:n=0:=by simpa using h2
   omega
  ·cases hv
 |some a=>
  obtain ⟨g,cur,hg,_⟩:=bW7 h
  exact ⟨g,by rw [hg]⟩
theorem gZ8 {P:Program}{t ty e:TypeId}{i:TypeInfo}{ei:TI}(hu:P.underlying t=some (.slice e))(hi:P.info? e=some i)(hi1:i.size=ei.size)(hi2:i.bytes=ei.bytes)(hz:i.zero=some ei.zero)
  (hzs:ei.zero.cells.size=ei.size) {p q:Option Addr} {m c:Nat} {news:List Value} (hm:0<m) (hsrc:Src w0 M H q m ei.size news) (hH:St w0 M H w) (h1:∀v∈news,v.oneCell'=true) (hb:m*ei.bytes<=140737488355328) (h63:m<=maxLen):
  ∃b' cap' w',(Builtin.append_ #[t,t] ty #[.slice p 0 0,.slice q m c]).run P w=.ok (.slice (some ⟨b',0,none⟩) m cap') w'/\m<=cap'/\St w0 M (.vec (some ⟨b',0,none⟩) m cap' e ei.size news::H) w':=by
 cases p with
 |none=>
  obtain ⟨p',cap',w',hr,hst⟩:=cS6 (P:=P) (ty:=ty) (c:=c) hu hi hi1 hi2 hz hzs (hH.nil e ei.size) hsrc hH h1 (by simpa using hb) (by simpa using h63)
  simp only [Qo,Qc] at hr hst
  obtain ⟨b',rfl⟩:=(fC6 (hst.own _ (qg ..))) hm
  obtain ⟨_,_,_,_,hge,_⟩:=bW7 (hst.own _ (qg ..))
  exact ⟨b',cap',w',hr,hge,hst⟩
 |some a=>
  have h63':m<=9223372036854775807:=by simpa [maxLen] using h63
  rcases hsrc.use hH with ⟨_,hm0,_⟩|⟨qa,rfl,hl,hnews⟩
  ·omega
  ·have hl':news.length=m*i.size:=by rw [hi1];exact hl
   have hge:=grownCap_ge w (0+m) 0 e
   have hcm:=grownCap_le_maxLen w (0+m) 0 e qZ
   have hr:=run_append_grow (P:=P) w t ty e i ei.zero hu hi hz a 0 0 [] oU (fun j v hj=>by simp at hj) qa m c news hl' hnews qZ qZ (growslice_fits qZ (by rw [hi2,Qo];exact hb))
   have hs0:=hH.nil e ei.size
   simp only [Qo] at hge hcm hr
   refine ⟨_,_,_,hr,hge,dW1 hs0 (fun w' hw'=>cW4 hzs hl hge hcm (by simpa using hw')) (by simp [Ent.id])⟩
theorem hH1 {es:Array MapEntry}{m:List (Int×Value)}{j:Int}(h:es.toList.map (fun x=>(x.key,x.val))=m.map (fun x=>(Value.int .i64 x.1,x.2)))(hx:dT4 m j=none):∀x∈es.toList,x.key≠ .int .i64 j:=by
 have hm:∀{m:List (Int×Value)},dT4 m j=none->∀p∈m,p.1≠j:=by
  intro m
  induction m with
  |nil=>simp
  |cons p r ih=>
   intro h q hq
   simp only [dT4] at h
   split at h
   ·cases h
   ·rename_i hne
    rcases qQ.1 hq with rfl|hq
    ·exact hne
    ·exact ih (by simpa using h) q hq
 intro x hx' hk
 have h1:(x.key,x.val)∈es.toList.map (fun x=>(x.key,x.val)):=qo.2 ⟨x,hx',rfl⟩
 rw [h] at h1
 obtain ⟨p,hp,he⟩:=qo.1 h1
 simp only [Prod.mk.injEq] at he
 rw [hk] at he
 simp only [Value.int.injEq,true_and] at he
 exact hm hx p hp he.1
theorem cN1 {P:Program}{t kt et:TypeId}(hm:P.underlying t=some (.map kt et))(hk:P.underlying kt=some (.int .i64)){b:Nat}{m:List (Int×Value)}{r:HP}(hs:St w0 M (.map b m::r) w)(j:Int)(v:Value):
  ∃w',(Instr.mapUpdate t (.map (some b)) (.int .i64 j) v).run P w=.ok () w'/\St w0 M (.map b (cB4 m j v)::r) w':=by
 obtain ⟨es,clock,h1,h2,h3⟩:=hs.own (.map b m) oU
 have hkey:MapKept.IsKey (.int .i64) (.int .i64 j):=rfl
 have hf:=cZ2 j es.toList m 0 h2
 have hfk:=MapKept.run_findKey (P:=P) (w:=w) hk hf
 have hck:∀e,(Instr.checkKey e 10000 kt (.int .i64 j)).run P w=.ok () w:=fun e=>MapKept.run_checkKey hk hkey e 9999
 cases hx:dT4 m j with
 |none=>
  rw [hx] at hfk
  refine ⟨{w with heap:=w.heap.setIfInBounds b (.map (es.push {key:=.int .i64 j,val:=v,born:=clock}) (clock+1))},?_,gV6 hs ?_ (MapKept.stamped_push h3 (hH1 h2 hx))⟩
  ·simp [Instr.mapUpdate,run_underlying hm,MapKept.run_getObj_map h1,hck,hfk,MapKept.run_setObj_map _ h1]
  ·rw [(dF7 hx).2]
   simp [h2]
 |some q=>
  obtain ⟨u,hq,hv,hset,_⟩:=cN2 hx
  rw [hx] at hfk
  simp only [hv,qV,Qo] at hfk
  have hkq:∃e,es[q]? =some e/\e.key=.int .i64 j:=by
   have:=congrArg (fun l=>l[q]?) h2
   simp only [qj,hq,qV] at this
   cases he:es.toList[q]? with
   |none=>simp [he] at this
   |some e=>simp [he] at this;exact ⟨e,by simpa using he,this.1⟩
  obtain ⟨e,he,hek⟩:=hkq
  refine ⟨{w with heap:=w.heap.setIfInBounds b (.map (es.modify q fun e=>{e with key:=.int .i64 j,val:=v}) clock)},?_,gV6 hs ?_ (MapKept.stamped_modify h3 _ _ (fun _ _=>rfl) (fun e' _ he'=>by rw [he] at he';cases he';exact hek.symm))⟩
  ·simp [Instr.mapUpdate,run_underlying hm,MapKept.run_getObj_map h1,hck,hfk,he,hek,MapKept.run_keyThatStays hkey,MapKept.run_setObj_map _ h1]
  ·rw [hset]
   apply qp
   intro i
   have:=congrArg (fun l=>l[i]?) h2
   simp only [qj] at this
   simp only [qj,Array.toList_modify,qS,qO]
   by_cases hi:q=i
   ·subst hi
    have hlt:q<m.length:=(qx.1 hq).1
    have he':es.toList[q]? =some e:=by simpa using he
    simp [he',hlt]
   ·simp only [hi,if_false]
    cases hes:es.toList[i]?<;>simp [hes] at this ⊢<;>exact this
theorem gT6 {P:Program}{t ty kt et:TypeId}(hm:P.underlying t=some (.map kt et))(hk:P.underlying kt=some (.int .i64)){b:Nat}{m:List (Int×Value)}{r:HP}(hs:St w0 M (.map b m::r) w)(j:Int)(ts:List TypeId):
  ∃w',(Builtin.delete_ (t::ts).toArray ty #[.map (some b),.int .i64 j]).run P w=.ok (.tuple #[]) w'/\St w0 M (.map b (kK1 m j)::r) w':=by
 obtain ⟨es,clock,h1,h2,h3⟩:=hs.own (.map b m) oU
 have hkey:MapKept.IsKey (.int .i64) (.int .i64 j):=rfl
 have hf:=cZ2 j es.toList m 0 h2
 have hfk:=MapKept.run_findKey (P:=P) (w:=w) hk hf
 have hck:∀e,(Instr.checkKey e 10000 kt (.int .i64 j)).run P w=.ok () w:=fun e=>MapKept.run_checkKey hk hkey e 9999
 cases hx:dT4 m j with
 |none=>
  rw [hx] at hfk
  refine ⟨{w with heap:=w.heap.setIfInBounds b (.map es clock)},?_,gV6 hs ?_ h3⟩
  ·simp [Builtin.delete_,run_underlying hm,MapKept.run_getObj_map h1,hck,hfk,MapKept.run_setObj_map _ h1]
  ·have:∀{m:List (Int×Value)},dT4 m j=none->kK1 m j=m:=by
    intro m
    induction m with
    |nil=>simp [kK1]
    |cons p r ih=>
     intro h
     simp only [dT4] at h
     split at h
     ·cases h
     ·rename_i hne;simp only [kK1,hne,if_false];rw [ih (by simpa using h)]
   rw [this hx,h2]
 |some q=>
  obtain ⟨u,hq,hv,_,hdel⟩:=cN2 hx
  rw [hx] at hfk
  simp only [hv,qV,Qo] at hfk
  refine ⟨{w with heap:=w.heap.setIfInBounds b (.map (es.eraseIdxIfInBounds q) clock)},?_,gV6 hs ?_ (MapKept.stamped_erase h3 q)⟩
  ·simp [Builtin.delete_,run_underlying hm,MapKept.run_getObj_map h1,hck,hfk,MapKept.run_setObj_map _ h1]
  ·rw [hdel]
   have hme:∀{α β:Type} (f:α->β) (l:List α) (i:Nat),(l.eraseIdx i).map f=(l.map f).eraseIdx i:=by
    intro α β f l
    induction l with
    |nil=>intro i;simp
    |cons x r ih=>intro i;cases i<;>simp [ih]
   rw [hme,<-h2,<-hme]
   simp
theorem VUpK.use {P:Program}{kt t et:TypeId}{b:Nat}{x v:Value}{k:HP->Prop}(h:VUpK P kt H b x v k)(hs:St w0 M H w)(hm:P.underlying t=some (.map kt et)):
  ∃w' H',(Instr.mapUpdate t (.map (some b)) x v).run P w=.ok () w'/\St w0 M H' w'/\k H':=by
 cases h with
 |@mk m u r hat hl hx hall h0 h1=>
  obtain ⟨lx,hlx⟩:=hx
  obtain ⟨es,clock,g1,g2,g3⟩:=hs.own _ hat.mem
  have hck:=fun em=>hl.check w em hlx
  have key:∀(es':Array MapEntry) (clock':Nat) (m':List (Value×Value)),es'.toList.map (fun x=>(x.key,x.val))=m'->MapKept.Stamped es' clock'->St w0 M (u (.mapk b m')) {w with heap:=w.heap.setIfInBounds b (.map es' clock')}:=by
   intro es' clock' m' e1 e2
   refine hs.turn hat fun hs'=>?_
   have hset:=MapKept.heap_set (o':=.map es' clock') g1
   exact hs'.step rfl rfl rfl oU (fun c hc hne=>hset.2 c (fun e=>hne (by simp [Ent.id,e]))) ⟨es',clock',hset.1,e1,e2⟩ (fun c hc=>.inl hc)
  rcases hl.find w hlx es.toList (cV6 g2 (q:=fun k=>∃l,keyOf P kt k=some l) hall) with ⟨hrun,hn⟩|⟨j,e,hrun,hj,he⟩
  ·refine ⟨_,_,?_,key (es.push {key:=x,val:=v,born:=clock}) (clock+1) (m++[(x,v)]) (by simp [g2]) (MapKept.stamped_push g3 hn),h0 (cN0 g2 hn)⟩
   simp [Instr.mapUpdate,run_underlying hm,MapKept.run_getObj_map g1,hck,hrun,MapKept.run_setObj_map _ g1]
  ·have hej:es[j]? =some e:=by simpa using hj
   have k2:m[j]? =some (x,e.val):=by rw [<-he];exact cV5 g2 hj
   have hst:=hl.stays w hlx
   refine ⟨_,_,?_,key (es.modify j fun e=>{e with key:=x,val:=v}) clock (m.set j (x,v)) ?_ (MapKept.stamped_modify g3 _ _ (fun _ _=>rfl) (fun e' _ he'=>by rw [hej] at he';cases he';exact he.symm)),h1 j e.val k2⟩
   ·simp [Instr.mapUpdate,run_underlying hm,MapKept.run_getObj_map g1,hck,hrun,hej,he,hst,MapKept.run_setObj_map _ g1]
   ·apply qp
    intro i
    have:=congrArg (fun l=>l[i]?) g2
    simp only [qj] at this
    simp only [qj,Array.toList_modify,qS,qO]
    by_cases hi:j=i
    ·subst hi
     have hlt:j<m.length:=(qx.1 k2).1
     simp [hj,hlt]
    ·simp only [hi,if_false]
     cases hes:es.toList[i]?<;>simp [hes] at this ⊢<;>exact this
theorem hZ3 {es:Array MapEntry}{clock:Nat}(h:MapKept.Stamped es clock){j:Nat}{e:MapEntry}(hj:es.toList[j]? =some e):es.findIdx? (fun x=>((x.born:Nat):Int)==((e.born:Nat):Int))=some j:=by
 rw [Go.WideElems.findIdx_arr]
 exact Go.WideElems.findIdx_born h.2.1 hj
theorem VMpE.use {P:Program}{kt t et:TypeId}{z:Value}{b:Nat}{x:Value}{K:Value->HP->Prop}(h:VMpE P kt z H b x K)(hs:St w0 M H w)(hm:P.underlying t=some (.map kt et)){i:TypeInfo}(hi:P.info? et=some i)(hz:i.zero=some z):
  ∃v w' H',(Instr.mapEntry t (.map (some b)) x).run P w=.ok v w'/\St w0 M H' w'/\K v H':=by
 cases h with
 |@mk m u r hat hl hx hall h0 h1=>
  obtain ⟨lx,hlx⟩:=hx
  obtain ⟨es,clock,g1,g2,g3⟩:=hs.own _ hat.mem
  have hck:=fun em=>hl.check w em hlx
  have hzv:∀u:World,(zeroValue et).run P u=.ok z u:=fun u=>by simp [zeroValue,typeInfo,hi,hz]
  have key:∀(es':Array MapEntry) (clock':Nat),St w0 M (u (.obj b (.map es' clock'))) {w with heap:=w.heap.setIfInBounds b (.map es' clock')}:=by
   intro es' clock'
   refine hs.turn hat fun hs'=>?_
   have hset:=MapKept.heap_set (o':=.map es' clock') g1
   exact hs'.step rfl rfl rfl oU (fun c hc hne=>hset.2 c (fun e=>hne (by simp [Ent.id,e]))) hset.1 (fun c hc=>.inl hc)
  rcases hl.find w hlx es.toList (cV6 g2 (q:=fun k=>∃l,keyOf P kt k=some l) hall) with ⟨hrun,hn⟩|⟨j,e,hrun,hj,he⟩
  ·have hlen:es.toList.length=m.length:=by have:=congrArg List.length g2;simpa using this
   refine ⟨_,_,_,?_,key (es.push {key:=x,val:=z,born:=clock}) (clock+1),h0 (cN0 g2 hn) _ _ clock (by simp [g2]) (MapKept.stamped_push g3 hn) ⟨{key:=x,val:=z,born:=clock},by rw [Array.toList_push,<-hlen];simp,rfl⟩⟩
   simp [Instr.mapEntry,run_underlying hm,MapKept.run_getObj_map g1,hck,hrun,hzv,MapKept.run_setObj_map _ g1,goInt]
  ·have hej:es[j]? =some e:=by simpa using hj
   have k2:m[j]? =some (x,e.val):=by rw [<-he];exact cV5 g2 hj
   have hst:=hl.stays w hlx
   have hsame:es.modify j (fun e=>{e with key:=x})=es:=by
    apply Array.ext'
    rw [Array.toList_modify]
    apply qp
    intro q
    rw [qS]
    by_cases hq:j=q
    ·subst hq
     rw [hj];simp [<-he]
    ·simp [hq]
   refine ⟨_,_,_,?_,key es clock,h1 j e.val k2 es clock e.born g2 g3 ⟨e,hj,rfl⟩⟩
   simp [Instr.mapEntry,run_underlying hm,MapKept.run_getObj_map g1,hck,hrun,hej,he,hst,hsame,MapKept.run_setObj_map _ g1,goInt]
theorem VEnS.use {P:Program}{t:TypeId}{b:Nat}{st:Int}{v:Value}{k:HP->Prop}(h:VEnS H b st v k)(hs:St w0 M H w):
  ∃w' H',(Instr.entryStore t (.map (some b)) (.int .i64 st) v).run P w=.ok () w'/\St w0 M H' w'/\k H':=by
 cases h with
 |@mk es clock m u r j e hat hm hst hj hb hk=>
  have g1:w.heap[b]? =some (.map es clock):=hs.own _ hat.mem
  have hset:=MapKept.heap_set (o':=.map (es.modify j fun e=>{e with val:=v}) clock) g1
  have hej:es[j]? =some e:=by simpa using hj
  refine ⟨{w with heap:=w.heap.setIfInBounds b (.map (es.modify j fun e=>{e with val:=v}) clock)},_,?_,hs.turn hat (y:=.mapk b (m.set j (e.key,v))) fun hs'=>hs'.step rfl rfl rfl oU (fun c hc hne=>hset.2 c (fun e=>hne (by simp [Ent.id,e]))) ⟨_,_,hset.1,?_,?_⟩ (fun c hc=>.inl hc),hk⟩
  ·have:=hZ3 hst hj
   rw [hb] at this
   simp [Instr.entryStore,MapKept.run_getObj_map g1,asInt,asIntOf,this,MapKept.run_setObj_map _ g1]
  ·apply qp
   intro q
   have h2:=congrArg (fun l=>l[q]?) hm
   simp only [qj] at h2
   simp only [qj,Array.toList_modify,qS,qO]
   by_cases hq:j=q
   ·subst hq
    have hlt:j<m.length:=by have:=(qx.1 hj).1;have h3:=congrArg List.length hm;simp at h3 this;omega
    simp [hj,hlt]
   ·simp only [hq,if_false];rw [<-h2];simp
  ·exact MapKept.stamped_modify hst _ _ (fun _ _=>rfl) (fun e' _ he'=>rfl)
theorem VDlK.use {P:Program}{kt t et:TypeId}{b:Nat}{x:Value}{k:HP->Prop}(h:VDlK P kt H b x k)(hs:St w0 M H w)(hm:P.underlying t=some (.map kt et))(ts:List TypeId)(ty:TypeId):
  ∃w' H',(Builtin.delete_ (t::ts).toArray ty #[.map (some b),x]).run P w=.ok (.tuple #[]) w'/\St w0 M H' w'/\k H':=by
 cases h with
 |@mk m u r hat hl hx hall h0 h1=>
  obtain ⟨lx,hlx⟩:=hx
  obtain ⟨es,clock,g1,g2,g3⟩:=hs.own _ hat.mem
  have hck:=fun em=>hl.check w em hlx
  have key:∀(es':Array MapEntry) (clock':Nat) (m':List (Value×Value)),es'.toList.map (fun x=>(x.key,x.val))=m'->MapKept.Stamped es' clock'->St w0 M (u (.mapk b m')) {w with heap:=w.heap.setIfInBounds b (.map es' clock')}:=by
   intro es' clock' m' e1 e2
   refine hs.turn hat fun hs'=>?_
   have hset:=MapKept.heap_set (o':=.map es' clock') g1
   exact hs'.step rfl rfl rfl oU (fun c hc hne=>hset.2 c (fun e=>hne (by simp [Ent.id,e]))) ⟨es',clock',hset.1,e1,e2⟩ (fun c hc=>.inl hc)
  rcases hl.find w hlx es.toList (cV6 g2 (q:=fun k=>∃l,keyOf P kt k=some l) hall) with ⟨hrun,hn⟩|⟨j,e,hrun,hj,he⟩
  ·refine ⟨_,_,?_,key es clock m g2 g3,h0 (cN0 g2 hn)⟩
   simp [Builtin.delete_,run_underlying hm,MapKept.run_getObj_map g1,hck,hrun,MapKept.run_setObj_map _ g1]
  ·have k2:m[j]? =some (x,e.val):=by rw [<-he];exact cV5 g2 hj
   refine ⟨_,_,?_,key (es.eraseIdxIfInBounds j) clock (m.eraseIdx j) ?_ (MapKept.stamped_erase g3 j),h1 j e.val k2⟩
   ·simp [Builtin.delete_,run_underlying hm,MapKept.run_getObj_map g1,hck,hrun,MapKept.run_setObj_map _ g1]
   ·have hme:∀{α β:Type} (f:α->β) (l:List α) (i:Nat),(l.eraseIdx i).map f=(l.map f).eraseIdx i:=by
     intro α β f l
     induction l with
     |nil=>intro i;simp
     |cons x r ih=>intro i;cases i<;>simp [ih]
    rw [<-g2,<-hme]
    simp
theorem dX6 {P : Program} {f : Nat} {fn : Func} (h1 : P.funcs[f]? = some fn) (h2 : fn.body.isNone = false) (h3 : (fn.name == "runtime.NumGoroutine") = false) (args : Array Value) (w : World) :
  (callFunc f args).run P w=.ok (.enter f args) w:=by
 simp only [callFunc,Sem.run_bind,run_program,Result.andThen_ok,h1,h2,h3,QV,if_false,Sem.run_pure]
theorem kY8 {o:Oper}(hr:Rep n env a)(hs:St w0 M H w)(h:lC5 C w0 M H o.op env K):
  o.wp C.P a w (lZ0 w0 M o a K) hT3:=by
 obtain ⟨dst,op,type,pos,after,guard⟩:=o
 simp only at h
 unfold lC5 at h
 split at h
 ·-- box
  rename_i e x
  unfold mP8 at h
  cases h1:ev env x with
  |none=>simp [h1] at h
  |some v=>
   simp only [h1] at h
   cases h with
   |mk h=>
    refine bJ0 (v:=.pointer (some ⟨w.heap.size,0,none⟩)) (w':=w.alloc (.cells v.cells e)) ?_ ⟨_,_,rfl,bT8 (y:=.row w.heap.size e (bX3 v)) hs (fun w' hw'=>?_) (by simp [Ent.id]),h _⟩
    ·simp [execOp,hr.eval h1,Instr.box,newVar,newRow]
    ·show w'.heap[_]? =_
     rw [hw',<-bX8]
 ·-- alloc
  rename_i e
  unfold kD8 at h
  cases h1:lay C.L e with
  |none=>simp [h1] at h
  |some ei=>
   simp only [h1] at h
   obtain ⟨ii,hi,_,_,hz⟩:=(C.okL.at h1).info'
   cases h with
   |mk h=>
    refine bJ0 (v:=.pointer (some ⟨w.heap.size,0,none⟩)) (w':=w.alloc (.cells ei.zero.cells e)) ?_ ⟨_,_,rfl,bT8 (y:=.row w.heap.size e (bX3 ei.zero)) hs (fun w' hw'=>?_) (by simp [Ent.id]),h _⟩
    ·simp [execOp,Instr.alloc,zeroValue,typeInfo,hi,hz,newVar,newRow]
    ·show w'.heap[_]? =_
     rw [hw',<-bX8]
 ·-- buildSlice
  rename_i t len parts
  unfold dB9 at h
  cases h1:lay C.L t with
  |none=>simp [h1] at h
  |some ti=>
   simp only [h1] at h
   cases h2:ti.td<;>simp only [h2] at h<;>try (exact h.elim)
   rename_i e
   have hu:=(C.okL.at h1).slice h2
   cases h3:lay C.L e with
   |none=>simp [h3] at h
   |some ei=>
    simp only [h3] at h
    obtain ⟨ii,hi,hi1,_,hz⟩:=(C.okL.at h3).info'
    cases h4:evp env parts.toList with
    |none=>simp [h4] at h
    |some ps=>
     simp only [h4] at h
     cases h5:Nat.beq (dF9 (bX3 ei.zero)) ei.size with
     |false=>simp [h5] at h
     |true=>
      simp only [h5] at h
      have hzs:ei.zero.cells.size=ei.size:=by
       have:=qE h5
       rw [bM8,<-bX8] at this
       simpa using this
      cases h6:Nat.ble (len*ei.size+len) 1000 with
      |false=>simp [h6] at h
      |true=>
       simp only [h6] at h
       have hsm:len*ei.size+len<=1000:=QO h6
       cases h7:fP5 ei.size ps (bB1 (bX3 ei.zero) len) with
       |none=>simp [h7] at h
       |some cs=>
        simp only [h7] at h
        cases h with
        |mk h=>
         obtain ⟨hf,hcl⟩:=cR7 ei.size ps _ _ h7
         have hzl:(bX3 ei.zero).length=ei.size:=by rw [<-bX8];simpa using hzs
         rw [bF3,hzl] at hcl
         have hps:parts.map (fun (x:Nat×Operand)=>(x.1,a.eval x.2))=ps.toArray:=by
          apply QQ.1
          simpa using dJ9 hr h4
         have hmade:=fX2 ei.zero.cells len ei.size hzs
         rw [bX8] at hmade
         refine bJ0 (v:=.slice (some ⟨w.heap.size,0,none⟩) len len) (w':=w.alloc (.cells cs.toArray e)) ?_
          ⟨_,_,rfl,bT8 (y:=.vec (some ⟨w.heap.size,0,none⟩) len len e ei.size cs) hs (fun w' hw'=>?_) (by simp [Ent.id]),h _⟩
         ·have hn24:¬16777216<len*ei.size:=by omega
          simp only [execOp,hps]
          by_cases hzero:len*ei.size=0
          ·have hr0:bB1 (bX3 ei.zero) len=[]:=qF (by rw [bF3,<-bX8];simp [hzs,hzero])
           rw [hr0] at hf
           have hz0:∀f:Nat->Value,(Array.range 0).map f=#[]:=fun f=>Array.eq_empty_of_size_eq_zero oU
           simp [Instr.buildSlice,run_underlying hu,sizeOf,typeInfo,hi,hi1,hzero,hz0,hf,newRow]
          ·rw [<-hmade] at hf
           unfold madeCells at hf
           simp [Instr.buildSlice,run_underlying hu,sizeOf,typeInfo,hi,hi1,hn24,hzero,zeroValue,hz,hf,newRow]
         ·refine bV8 hw' (qA _) (by simp only [maxLen];omega) (by simpa using hcl) ?_
          rw [QS,<-hcl,Qk]
 ·-- makeSlice
  rename_i t x y
  unfold dT2 at h
  cases h1:lay C.L t with
  |none=>simp [h1] at h
  |some ti=>
   simp only [h1] at h
   cases h2:ti.td<;>simp only [h2] at h<;>try (exact h.elim)
   rename_i e
   have hu:=(C.okL.at h1).slice h2
   cases h3:lay C.L e with
   |none=>simp [h3] at h
   |some ei=>
    simp only [h3] at h
    obtain ⟨ii,hi,hi1,hi2,hz⟩:=(C.okL.at h3).info'
    cases h5:Nat.beq (dF9 (bX3 ei.zero)) ei.size with
    |false=>simp [h5] at h
    |true=>
     simp only [h5] at h
     have hzs:ei.zero.cells.size=ei.size:=by
      have:=qE h5
      rw [bM8,<-bX8] at this
      simpa using this
     split at h
     ·rename_i kl l hx
      split at h
      ·rename_i kc c hy
       cases h with
       |mk g1 g2 g3 g4 hk=>
        have hrun:=run_make (P:=C.P) w t e ii ei.zero hu hi hz kl kc l c g1 g2 (by rw [hi2];exact g3) g4
        refine bJ0 (v:=.slice (some ⟨w.heap.size,0,none⟩) l.toNat c.toNat) (w':=w.alloc (.cells (madeCells ei.zero.cells (c.toNat*ii.size)) e)) ?_
         ⟨_,_,rfl,bT8 (y:=.vec (some ⟨w.heap.size,0,none⟩) l.toNat c.toNat e ei.size (bB1 (bX3 ei.zero) l.toNat)) hs (fun w' hw'=>?_) (by simp [Ent.id]),hk _⟩
        ·simp [execOp,hr.eval hx,hr.eval hy,hrun]
        ·rw [hi1,fX2 ei.zero.cells c.toNat ei.size hzs,bX8] at hw'
         have hzl:(bX3 ei.zero).length=ei.size:=by rw [<-bX8];simpa using hzs
         refine bV8 hw' qZ (by simp only [maxLen];omega) (by simp [bF3,hzl]) ?_
         rw [QS]
         have:∀(zs:List Value) (p q:Nat),p<=q->(bB1 zs q).take (p*zs.length)=bB1 zs p:=by
          intro zs p
          induction p with
          |zero=>intro q _;simp [bB1]
          |succ p ih=>
           intro q hq
           cases q with
           |zero=>omega
           |succ q=>
            simp only [bB1]
            rw [QD,Nat.one_mul,Nat.add_comm,List.take_length_add_append,ih q qZ]
         rw [<-hzl]
         exact this _ _ _ qZ
      ·exact h.elim
     ·exact h.elim
 ·-- makeMap
  split at h
  ·unfold gG4 at h
   cases h with
   |mk h=>
    refine bJ0 (v:=.map (some w.heap.size)) (w':=w.alloc (.map #[] 0)) ?_ ⟨_,_,rfl,bT8 (y:=.map w.heap.size []) hs (fun w' hw'=>⟨_,_,hw',by simp,MapKept.stamped_empty _⟩) (by simp [Ent.id]),h _⟩
    have hmm:∀t,(Instr.makeMap t none).run C.P w=.ok (.map (some w.heap.size)) (w.alloc (.map #[] 0)):=fun _=>rfl
    simp [execOp,hmm]
  ·unfold fB0 at h
   cases h with
   |mk h=>
    refine bJ0 (v:=.map (some w.heap.size)) (w':=w.alloc (.map #[] 0)) ?_ ⟨_,_,rfl,bT8 (y:=.mapk w.heap.size []) hs (fun w' hw'=>⟨_,_,hw',rfl,MapKept.stamped_empty _⟩) (by simp [Ent.id]),h _⟩
    have hmm:∀t,(Instr.makeMap t none).run C.P w=.ok (.map (some w.heap.size)) (w.alloc (.map #[] 0)):=fun _=>rfl
    simp [execOp,hmm]
 ·-- store
  rename_i t x y
  unfold kB3 at h
  split at h
  ·rename_i b off hx
   cases hy:ev env y with
   |none=>simp [hy] at h
   |some v=>
    simp only [hy] at h
    cases h1:lay C.L t with
    |none=>simp [h1] at h
    |some ti=>
     simp only [h1] at h
     obtain ⟨ii,hi,hi1,_,hz⟩:=(C.okL.at h1).info'
     cases h2:Nat.beq (dF9 (bX3 v)) ti.size with
     |false=>simp [h2] at h
     |true=>
      simp only [h2] at h
      ·have hvs:v.cells.size=ti.size:=by
        have:=qE h2
        rw [bM8,<-bX8] at this
        simpa using this
       obtain ⟨w',H',hrun,hst,hk⟩:=h.use (P:=C.P) hs
       refine cY1 (w':=w') ?_ ⟨_,_,rfl,hst,hk⟩
       rw [<-bX8] at hrun
       simp [execOp,hr.eval hx,hr.eval hy,Instr.storeAt,Instr.sureAddr,storeVar,sizeOf,typeInfo,hi,hi1,hvs,hrun]
  ·exact h.elim
 ·-- mapUpdate
  rename_i t m i x
  split at h
  ·unfold fX0 at h
   cases h1:fC0 C.L t with
   |none=>simp [h1] at h
   |some et=>
    simp only [h1] at h
    obtain ⟨kt,hm,hkt⟩:=cV7 C.okL h1
    split at h
    ·rename_i b hm'
     split at h
     ·rename_i j hj
      cases hx:ev env x with
      |none=>simp [hx] at h
      |some v=>
       simp only [hx] at h
       cases h with
       |mk hat hk=>
        obtain ⟨w',hrun,hst⟩:=cN1 (P:=C.P) hm hkt (hs.perm hat.perm) j v
        refine cY1 (w':=w') ?_ ⟨_,_,rfl,hst.perm (hat.permU _).symm,hk⟩
        simp [execOp,hr.eval hm',hr.eval hj,hr.eval hx,hrun]
     ·exact h.elim
    ·exact h.elim
  ·unfold dJ5 at h
   split at h
   ·rename_i kt et hkt
    have hm:=bL6 C.okL hkt
    split at h
    ·rename_i b hm'
     split at h
     ·rename_i key hj
      cases hx:ev env x with
      |none=>simp [hx] at h
      |some v=>
       simp only [hx] at h
       obtain ⟨w',H',hrun,hst,hk⟩:=h.use hs hm
       refine cY1 (w':=w') ?_ ⟨_,_,rfl,hst,hk⟩
       simp [execOp,hr.eval hm',hr.eval hj,hr.eval hx,hrun]
     ·exact h.elim
    ·exact h.elim
   ·exact h.elim
 ·-- insert
  rename_i t m i x
  split at h
  ·unfold fX0 at h
   cases h1:fC0 C.L t with
   |none=>simp [h1] at h
   |some et=>
    simp only [h1] at h
    obtain ⟨kt,hm,hkt⟩:=cV7 C.okL h1
    split at h
    ·rename_i b hm'
     split at h
     ·rename_i j hj
      cases hx:ev env x with
      |none=>simp [hx] at h
      |some v=>
       simp only [hx] at h
       cases h with
       |mk hat hk=>
        obtain ⟨w',hrun,hst⟩:=cN1 (P:=C.P) hm hkt (hs.perm hat.perm) j v
        refine cY1 (w':=w') ?_ ⟨_,_,rfl,hst.perm (hat.permU _).symm,hk⟩
        simp [execOp,hr.eval hm',hr.eval hj,hr.eval hx,hrun]
     ·exact h.elim
    ·exact h.elim
  ·unfold dJ5 at h
   split at h
   ·rename_i kt et hkt
    have hm:=bL6 C.okL hkt
    split at h
    ·rename_i b hm'
     split at h
     ·rename_i key hj
      cases hx:ev env x with
      |none=>simp [hx] at h
      |some v=>
       simp only [hx] at h
       obtain ⟨w',H',hrun,hst,hk⟩:=h.use hs hm
       refine cY1 (w':=w') ?_ ⟨_,_,rfl,hst,hk⟩
       simp [execOp,hr.eval hm',hr.eval hj,hr.eval hx,hrun]
     ·exact h.elim
    ·exact h.elim
   ·exact h.elim
 ·-- range
  rename_i t x
  unfold kB9 at h
  cases h1:lay C.L t with
  |none=>simp [h1] at h
  |some ti=>
   simp only [h1] at h
   cases h2:ti.td<;>simp only [h2] at h<;>try (exact h.elim)
   have hu:=(C.okL.at h1).map h2
   split at h
   ·rename_i b hx
    cases h with
    |mkK hat hk=>
     obtain ⟨es,clock,g1,g2,g3⟩:=hs.own _ hat.mem
     have hs1:=(hs.perm hat.perm).step (y:=.obj b (.map es clock)) rfl rfl rfl (qA _) (fun _ _ _=>rfl) g1 (fun c hc=>.inl hc)
     refine bJ0 (v:=.pointer (some ⟨w.heap.size,0,none⟩)) (w':=w.alloc (.mapIter (some b) clock #[] clock)) ?_ ⟨_,_,rfl,bT8 (y:=.obj w.heap.size (.mapIter (some b) clock #[] clock)) hs1 (fun w' hw'=>hw') (by simp [Ent.id]),hk es clock _ g2 g3⟩
     simp [execOp,hr.eval hx,run_range_map w t _ _ b es clock hu g1]
    |mk hat hk=>
     obtain ⟨es,clock,g1,g2,g3⟩:=hs.own _ hat.mem
     have hs1:=(hs.perm hat.perm).step (y:=.obj b (.map es clock)) rfl rfl rfl (qA _) (fun _ _ _=>rfl) g1 (fun c hc=>.inl hc)
     refine bJ0 (v:=.pointer (some ⟨w.heap.size,0,none⟩)) (w':=w.alloc (.mapIter (some b) clock #[] clock)) ?_ ⟨_,_,rfl,bT8 (y:=.obj w.heap.size (.mapIter (some b) clock #[] clock)) hs1 (fun w' hw'=>hw') (by simp [Ent.id]),hk es clock _ g2 g3⟩
     simp [execOp,hr.eval hx,run_range_map w t _ _ b es clock hu g1]
   ·exact h.elim
 ·-- next
  rename_i it
  unfold lV7 at h
  split at h
  ·rename_i b hx
   cases h with
   |@mk bm since last clock seen es u1 u2 r1 r2 h1 h2 hold hsc hend hgo=>
    have g1:w.heap[b]? =some (.mapIter (some bm) since seen last):=hs.own _ h1.mem
    have g2:w.heap[bm]? =some (.map es clock):=hs.own _ h2.mem
    have hlf:∀x,x∈(leftOf es seen).toList<->x∈es.toList/\x.born∉seen:=by
     intro x
     unfold leftOf
     simp [Array.contains_iff_mem]
    rcases Go.run_next_at (P:=C.P) w type b bm since last seen es clock g1 g2 hold hsc with ⟨e0,hrun⟩|⟨e,he,w1,hw1,hrun⟩
    ·refine bJ0 (v:=.tuple #[.bool false]) (w':=w) ?_ ⟨_,_,rfl,hs,hend fun x hx'=>?_⟩
     ·simp [execOp,hr.eval hx,hrun]
     ·by_cases hc:x.born∈seen
      ·exact hc
      ·have:=(hlf x).2 ⟨hx',hc⟩
       have hz:(leftOf es seen).toList.length=0:=by simpa using e0
       rw [List.length_eq_zero_iff.1 hz] at this
       cases this
    ·obtain ⟨k1,k2⟩:=(hlf e).1 he
     refine bJ0 (v:=.tuple #[.bool true,e.key,e.val]) (w':=ChangeMaps.setBlock w1 b (.mapIter (some bm) since (seen.push e.born) clock)) ?_ ⟨_,_,rfl,hs.turn h1 (y:=.obj b (.mapIter (some bm) since (seen.push e.born) clock)) fun hs'=>?_,hgo e k1 k2⟩
     ·simp [execOp,hr.eval hx,hrun]
     ·have hset:=MapKept.heap_set (o':=.mapIter (some bm) since (seen.push e.born) clock) g1
      rcases hw1 with rfl|rfl
      ·exact hs'.step rfl rfl rfl (by simp [ChangeMaps.setBlock]) (fun c hc hne=>hset.2 c (fun e=>hne (by simp [Ent.id,e]))) hset.1 (fun c hc=>.inl hc)
      ·exact hs'.step rfl rfl rfl (by simp [ChangeMaps.setBlock]) (fun c hc hne=>hset.2 c (fun e=>hne (by simp [Ent.id,e]))) hset.1 (fun c hc=>.inl hc)
  ·exact h.elim
 ·-- append
  rename_i args ts
  unfold hC1 at h
  split at h
  ·rename_i t t' hts
   cases h0:Nat.beq t t' with
   |false=>
    simp only [h0] at h
    have hts':ts=#[t,t']:=QQ.1 (by simpa using hts)
    subst hts'
    cases h1:lay C.L t with
    |none=>simp [h1] at h
    |some ti=>
     simp only [h1] at h
     cases h2:ti.td<;>simp only [h2] at h<;>try (exact h.elim)
     rename_i e
     have hu:=(C.okL.at h1).slice h2
     cases h3:lay C.L e with
     |none=>simp [h3] at h
     |some ei=>
      simp only [h3] at h
      obtain ⟨ii,hi,hi1,hi2,hz⟩:=(C.okL.at h3).info'
      cases h7:lay C.L t' with
      |none=>simp [h7] at h
      |some ti'=>
       simp only [h7] at h
       cases h8:ti'.td<;>simp only [h8] at h<;>try (exact h.elim)
       rename_i kn
       have hu':=(C.okL.at h7).int h8
       cases h5:Nat.beq (dF9 (bX3 ei.zero)) ei.size with
       |false=>simp [h5] at h
       |true=>
        simp only [h5] at h
        have hzs:ei.zero.cells.size=ei.size:=by
         have:=qE h5
         rw [bM8,<-bX8] at this
         simpa using this
        cases h6:Nat.ble 1 ei.size with
        |false=>simp [h6] at h
        |true=>
         simp only [h6] at h
         have h1s:=QO h6
         split at h
         ·rename_i p nn cap kj j hargs
          cases h with
          |@nil m hp hn hc hj g0 g1 g2 hk=>
           subst hp;subst hn;subst hc;subst hj
           have hrun:=Go.Lib.run_append_nil_zeros (P:=C.P) w t t' type e ii ei.zero kj kn hu hu' hi hz m g0 qZ (by simp only [maxLen] at g2;omega) (by rw [hi2];omega)
           have hge:=grownCap_ge w m 0 e
           have hcm:=grownCap_le_maxLen w m 0 e g2
           have hzl:(bX3 ei.zero).length=ei.size:=by rw [<-bX8];simpa using hzs
           have hzc:Builtin.zeroCells ei.zero.cells m=(bB1 (bX3 ei.zero) m).toArray:=by
            rw [<-dD1 hzs,Array.toArray_toList]
           refine bJ0 (v:=.slice (some ⟨w.heap.size,0,none⟩) m (grownCap w m 0 e)) (w':=w.drew.alloc (.cells (Builtin.zeroCells ei.zero.cells m++Builtin.zeroCells ei.zero.cells (grownCap w m 0 e - m)) e)) ?_
            ⟨_,_,rfl,(dW1 (x:=.vec none 0 0 e ei.size []) (y:=.vec (some ⟨w.heap.size,0,none⟩) m (grownCap w m 0 e) e ei.size (bB1 (bX3 ei.zero) m)) (hs.nil e ei.size) (fun w' hw'=>cW4 hzs (by rw [bF3,hzl]) hge hcm (by rw [hw',hzc])) (by simp [Ent.id])),hk _ _ hge⟩
           simp [execOp,resolve,invoke,builtin,bV6 hr hargs,hrun]
         ·exact h.elim
   |true=>
    simp only [h0] at h
    have:=qE h0
    subst this
    have hts':ts=#[t,t]:=QQ.1 (by simpa using hts)
    subst hts'
    cases h1:lay C.L t with
    |none=>simp [h1] at h
    |some ti=>
     simp only [h1] at h
     cases h2:ti.td<;>simp only [h2] at h<;>try (exact h.elim)
     rename_i e
     have hu:=(C.okL.at h1).slice h2
     cases h3:lay C.L e with
     |none=>simp [h3] at h
     |some ei=>
      simp only [h3] at h
      obtain ⟨ii,hi,hi1,hi2,hz⟩:=(C.okL.at h3).info'
      cases h5:Nat.beq (dF9 (bX3 ei.zero)) ei.size with
      |false=>simp [h5] at h
      |true=>
       simp only [h5] at h
       have hzs:ei.zero.cells.size=ei.size:=by
        have:=qE h5
        rw [bM8,<-bX8] at this
        simpa using this
       cases h6:Nat.ble 1 ei.size with
       |false=>simp [h6] at h
       |true=>
        simp only [h6] at h
        split at h
        ·rename_i p nn cap q m c hargs
         cases h with
         |@own xs news u r hat hsrc g1 g2 g3 hk=>
          obtain ⟨p',cap',w',hrun,hst⟩:=cS6 (P:=C.P) (ty:=type) (c:=c) hu hi hi1 hi2 hz hzs (hs.perm hat.perm) hsrc hs g1 g2 g3
          refine bJ0 (v:=.slice p' (nn+m) cap') (w':=w') ?_ ⟨_,_,rfl,hst,hk p' cap' (fC6 (hst.own _ (qg ..)))⟩
          simp [execOp,resolve,invoke,builtin,bV6 hr hargs,hrun]
         |@self N off b xs news u r hat hp hq hnews hl hr1 g1 hk=>
          subst hp;subst hq
          obtain ⟨w',hrun,hst⟩:=gJ0 (P:=C.P) (ty:=type) (c:=c) hu hi hi1 hs hat hnews hl hr1 g1
          refine bJ0 (v:=.slice (some ⟨b,0,none⟩) (nn+m) cap) (w':=w') ?_ ⟨_,_,rfl,hst,hk⟩
          simp [execOp,resolve,invoke,builtin,bV6 hr hargs,hrun]
         |@tail b d N capB xs news u r hat hp hc hd hsrc g1 g2 g3 hk1 hk2=>
          subst hp;subst hc
          rcases gZ9 (P:=C.P) (ty:=type) (c:=c) hu hi hi1 hi2 hz hzs (hs.perm hat.perm) hd hsrc hs g1 g2 g3 with ⟨w',hrun,hcp,hst⟩|⟨b',cap',w',hrun,hge2,hst⟩
          ·refine bJ0 (v:=.slice (some ⟨b,d*ei.size,none⟩) (nn+m) (capB - d)) (w':=w') ?_ ⟨_,_,rfl,hst,hk1 hcp⟩
           simp [execOp,resolve,invoke,builtin,bV6 hr hargs,hrun]
          ·refine bJ0 (v:=.slice (some ⟨b',0,none⟩) (nn+m) cap') (w':=w') ?_ ⟨_,_,rfl,hst,hk2 b' cap' hge2⟩
           simp [execOp,resolve,invoke,builtin,bV6 hr hargs,hrun]
         |@zero news hn hc hm hsrc g1 g2 g3 hk=>
          subst hn;subst hc
          obtain ⟨b',cap',w',hrun,hge2,hst⟩:=gZ8 (P:=C.P) (ty:=type) (c:=c) hu hi hi1 hi2 hz hzs hm hsrc hs g1 g2 g3
          refine bJ0 (v:=.slice (some ⟨b',0,none⟩) m cap') (w':=w') ?_ ⟨_,_,rfl,hst,hk b' cap' hge2⟩
          simp only [execOp,resolve,invoke,builtin,bV6 hr hargs,hrun]
          simp
          rw [hrun]
          rfl
         |@nil news hp hn hc hsrc g1 g2 g3 hk=>
          subst hp;subst hn;subst hc
          obtain ⟨p',cap',w',hrun,hst⟩:=cS6 (P:=C.P) (ty:=type) (c:=c) hu hi hi1 hi2 hz hzs (hs.nil e ei.size) hsrc hs g1 (by simpa using g2) (by simpa using g3)
          simp only [Qo,Qc] at hrun hst
          refine bJ0 (v:=.slice p' m cap') (w':=w') ?_ ⟨_,_,rfl,hst,hk p' cap' (fC6 (hst.own _ (qg ..)))⟩
          simp [execOp,resolve,invoke,builtin,bV6 hr hargs,hrun]
        ·exact h.elim
  ·exact h.elim
 ·-- copy
  rename_i args ts
  unfold lM4 at h
  split at h
  ·rename_i t t' hts
   have hts':ts=#[t,t']:=QQ.1 (by simpa using hts)
   subst hts'
   cases h1:lay C.L t with
   |none=>simp [h1] at h
   |some ti=>
    simp only [h1] at h
    cases h2:ti.td<;>simp only [h2] at h<;>try (exact h.elim)
    rename_i e
    have hu:=(C.okL.at h1).slice h2
    cases h3:lay C.L e with
    |none=>simp [h3] at h
    |some ei=>
     simp only [h3] at h
     obtain ⟨ii,hi,hi1,hi2,hz⟩:=(C.okL.at h3).info'
     split at h
     ·rename_i p nn cap q m c hargs
      obtain ⟨v,w',H',hrun,hst,hk⟩:=kG6 (P:=C.P) (t':=t') (ty:=type) (c:=c) hu hi hi1 hs h
      refine bJ0 (v:=v) (w':=w') ?_ ⟨_,_,rfl,hst,hk⟩
      simp [execOp,resolve,invoke,builtin,bV6 hr hargs,hrun]
     ·exact h.elim
  ·exact h.elim
 ·-- clear
  rename_i args ts
  unfold kD1 at h
  split at h
  ·rename_i t hts
   have hts':ts=#[t]:=QQ.1 (by simpa using hts)
   subst hts'
   cases h1:lay C.L t with
   |none=>simp [h1] at h
   |some ti=>
    simp only [h1] at h
    cases h2:ti.td<;>simp only [h2] at h<;>try (exact h.elim)
    rename_i e
    have hu:=(C.okL.at h1).slice h2
    cases h3:lay C.L e with
    |none=>simp [h3] at h
    |some ei=>
     simp only [h3] at h
     obtain ⟨ii,hi,hi1,hi2,hz⟩:=(C.okL.at h3).info'
     cases h5:Nat.beq (dF9 (bX3 ei.zero)) ei.size with
     |false=>simp [h5] at h
     |true=>
      simp only [h5] at h
      have hzs:ei.zero.cells.size=ei.size:=by
       have:=qE h5
       rw [bM8,<-bX8] at this
       simpa using this
      cases h6:bK6 (bX3 ei.zero) with
      |false=>simp [h6] at h
      |true=>
       simp only [h6] at h
       split at h
       ·rename_i p nn cap hargs
        obtain ⟨v,w',H',hrun,hst,hk⟩:=hM9 (P:=C.P) (ty:=type) hu hi hi1 hz hzs (cX2 h6) hs h
        refine bJ0 (v:=v) (w':=w') ?_ ⟨_,_,rfl,hst,hk⟩
        simp [execOp,resolve,invoke,builtin,bV6 hr hargs,hrun]
       ·exact h.elim
  ·exact h.elim
 ·-- delete
  rename_i args ts
  split at h
  rotate_left
  ·unfold gH4 at h
   split at h
   ·rename_i t ts' hts
    cases h1:hR1 C.L t with
    |none=>simp [h1] at h
    |some et=>
     obtain ⟨kt,et⟩:=et
     simp only [h1] at h
     have hm:=bL6 C.okL h1
     split at h
     ·rename_i b x hargs
      obtain ⟨w',H',hrun,hst,hk⟩:=h.use hs hm ts' type
      refine bJ0 (v:=.tuple #[]) (w':=w') ?_ ⟨_,_,rfl,hst,hk⟩
      have hts':ts=(t::ts').toArray:=QQ.1 (by simpa using hts)
      simp [execOp,resolve,invoke,builtin,bV6 hr hargs,hts',hrun]
     ·exact h.elim
   ·exact h.elim
  unfold hD7 at h
  split at h
  ·rename_i t ts' hts
   cases h1:fC0 C.L t with
   |none=>simp [h1] at h
   |some et=>
    simp only [h1] at h
    obtain ⟨kt,hm,hkt⟩:=cV7 C.okL h1
    split at h
    ·rename_i b j hargs
     cases h with
     |mk hat hk=>
      obtain ⟨w',hrun,hst⟩:=gT6 (P:=C.P) (ty:=type) hm hkt (hs.perm hat.perm) j ts'
      refine bJ0 (v:=.tuple #[]) (w':=w') ?_ ⟨_,_,rfl,hst.perm (hat.permU _).symm,hk⟩
      have hts':ts=(t::ts').toArray:=QQ.1 (by simpa using hts)
      simp [execOp,resolve,invoke,builtin,bV6 hr hargs,hts',hrun]
    ·exact h.elim
  ·exact h.elim
 ·-- a call
  rename_i f args ts
  unfold lM7 at h
  split at h
  ·rename_i g first captured hf
   cases h1:fL6 C.fns g with
   |false=>simp [h1] at h
   |true=>
    simp only [h1] at h
    obtain ⟨fn,g1,g2,g3⟩:=C.okF g (cX4.1 h1)
    cases h2:evs env args.toList with
    |none=>simp [h2] at h
    |some vs=>
     simp only [h2] at h
     cases h with
     |mk h=>
      have hcalls:=h w hs
      have hargs:first++vs.toArray++captured=(first.toList++(vs++captured.toList)).toArray:=by
       apply QQ.1;simp
      have hrun:(execOp a.eval {dst:=dst,op:=.call {callee:=.value f,args:=args,argTypes:=ts},type:=type,pos:=pos,after:=after,guard:=guard}).run C.P w=.ok (.enter g (first.toList++(vs++captured.toList)).toArray) w:=by
       rw [<-hargs]
       simp [execOp,resolve,Deferred.ofValue,invoke,hr.eval hf,bV6 hr h2,dX6 g1 g2 g3]
      unfold Oper.wp
      rw [hrun]
      refine Calls.mono hcalls fun e w' he=>?_
      obtain ⟨v,H',rfl,hst,hk⟩:=he
      exact ⟨v,H',rfl,hst,hk⟩
  ·exact h.elim
 ·-- mapEntry
  rename_i t m i
  unfold fH9 at h
  cases h1:hR1 C.L t with
  |none=>simp [h1] at h
  |some p=>
   obtain ⟨kt,et⟩:=p
   simp only [h1] at h
   have hm:=bL6 C.okL h1
   cases h2:lay C.L et with
   |none=>simp [h2] at h
   |some ei=>
    simp only [h2] at h
    obtain ⟨ii,hi,_,_,hz⟩:=(C.okL.at h2).info'
    split at h
    ·rename_i b h3
     cases h4:ev env i with
     |none=>simp [h4] at h
     |some key=>
      simp only [h4] at h
      obtain ⟨v,w',H',hrun,hst,hk⟩:=h.use hs hm hi hz
      refine bJ0 (v:=v) (w':=w') ?_ ⟨_,_,rfl,hst,hk⟩
      simp [execOp,hr.eval h3,hr.eval h4,hrun]
    ·exact h.elim
 ·-- entryStore
  rename_i t m s x
  unfold dH9 at h
  split at h
  ·rename_i b h1
   split at h
   ·rename_i st h2
    cases h3:ev env x with
    |none=>simp [h3] at h
    |some v=>
     simp only [h3] at h
     obtain ⟨w',H',hrun,hst,hk⟩:=h.use (P:=C.P) (t:=t) hs
     refine cY1 (w':=w') ?_ ⟨_,_,rfl,hst,hk⟩
     simp [execOp,hr.eval h1,hr.eval h2,hr.eval h3,hrun]
   ·exact h.elim
  ·exact h.elim
 ·exact h.elim
end
end Go.Vx
end
