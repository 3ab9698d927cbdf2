import Derived.Test.YtlbekjokdlkghaaGreatChipMovesRm
set_option linter.unusedVariables false
set_option linter.unusedSimpArgs false
set_option maxHeartbeats 4000000
namespace Go.Gm
structure RCtx where
 s:Spc
 n:Nat
 tabs:List (List Ety)
 pk:List Pkt
 L:Nat
 outs:Nat->Nat->Int
 dep:Nat->Nat->Nat
def RCtx.nx (c:RCtx)(r o:Nat):Nat:=(bZ8 c.s.wide (r:Int) (bK1 o)).toNat
def RCtx.src (c:RCtx)(p:Nat):Nat:=(c.pk[p]?.map (·.src)).getD 0
def RCtx.has (c:RCtx)(p r o:Nat):Prop:=bH9 (c.outs p r) (bK1 o)
instance (c:RCtx) (p r o:Nat):Decidable (c.has p r o):=by unfold RCtx.has;infer_instance
structure RCtxOk (c:RCtx):Prop where
 find:∀p r,p<c.pk.length->r<c.n->c.outs p r≠0->bH0 ((c.tabs[r]?).getD []) ((c.pk[p]?.map (·.key)).getD 0)=some (c.outs p r)
 root:∀p,p<c.pk.length->c.src p<c.n/\c.outs p (c.src p)≠0/\c.dep p (c.src p)=0
 edge:∀p r o,p<c.pk.length->r<c.n->o<4->c.has p r o->bS3 c.s.wide c.s.high (r:Int) (bK1 o)/\c.nx r o<c.n/\c.outs p (c.nx r o)≠0/\c.dep p (c.nx r o)=c.dep p r+1/\c.nx r o≠c.src p
 par:∀p r1 o1 r2 o2,p<c.pk.length->r1<c.n->r2<c.n->o1<4->o2<4->c.has p r1 o1->c.has p r2 o2->c.nx r1 o1=c.nx r2 o2->r1=r2/\o1=o2
 inj:∀r1 r2 o,r1<c.n->r2<c.n->o<4->bS3 c.s.wide c.s.high (r1:Int) (bK1 o)->bS3 c.s.wide c.s.high (r2:Int) (bK1 o)->c.nx r1 o=c.nx r2 o->r1=r2
 load:∀r o,o<5->((List.range c.pk.length).countP fun p=>decide (c.has p r o))<=c.L
 room:(c.L:Int)<=c.s.room
structure RInv (c:RCtx) (st:RunZ) (ent:Nat->Nat->Prop) (snt:Nat->Nat->Nat->Prop) (dl:Nat->Nat->Nat) (cdl:Nat) (proc:Nat->Nat->Prop) (rd:Nat->Prop) (pend:Nat->Nat->Prop):Prop where
 q:∀r o p,p∈st.q r o->p<c.pk.length/\r<c.n/\o<5/\c.has p r o/\ent p r/\¬snt p r o
 qn:∀r o,(st.q r o).Nodup
 qd:∀r o (i p:Nat),(st.q r o)[i]? =some p->dl r o+i+1<=(c.dep p r+1)*c.L
 co:∀r b p,st.co r b=some p->p<c.pk.length/\r<c.n/\b<4/\¬ent p r/\cdl<=c.dep p r*c.L/\∃r0 o0,r0<c.n/\o0<4/\c.has p r0 o0/\snt p r0 o0/\c.nx r0 o0=r/\b=cZ6 o0/\proc r0 o0
 all:∀p r o,ent p r->o<5->c.has p r o->p∈st.q r o\/snt p r o
 on:∀p r o,snt p r o->o<4->ent p (c.nx r o)\/st.co (c.nx r o) (cZ6 o)=some p\/pend p (c.nx r o)
 sn:∀p r o,snt p r o->ent p r/\o<5/\c.has p r o
 en:∀p r,ent p r->p<c.pk.length/\r<c.n/\c.outs p r≠0
 pa:∀p y,ent p y\/pend p y->y=c.src p\/∃r0 o0,r0<c.n/\o0<4/\c.has p r0 o0/\snt p r0 o0/\c.nx r0 o0=y
 pe:∀p r,pend p r->p<c.pk.length/\r<c.n/\c.outs p r≠0/\¬ent p r/\cdl<=c.dep p r*c.L/\(∀b,st.co r b≠some p)/\(c.src p=r->rd r)
 rt:∀p,p<c.pk.length->(rd (c.src p)->ent p (c.src p)\/pend p (c.src p))/\(¬rd (c.src p)->¬ent p (c.src p))
 ar:∀p r t,(p,r,t)∈st.arr->snt p r 4/\t+1<=(c.dep p r+1)*c.L
 an:(st.arr.map fun x=>(x.1,x.2.1)).Nodup
 aa:∀p r,snt p r 4->∃t,(p,r,t)∈st.arr
 dr:st.drp=[]
theorem dY4 {c:RCtx}(hc:RCtxOk c){l:List Nat}{r o p:Nat}(ho:o<5)(hl:∀x∈l,x<c.pk.length/\c.has x r o)(hn:l.Nodup)(hp:p<c.pk.length)(hh:c.has p r o)(hnp:p∉l):l.length+1<=c.L:=by
 refine Qb ?_ (hc.load r o ho)
 have h1:(l++[p]).Nodup:=by
  rw [Qe]
  exact ⟨hn,by simp,fun a ha b hb e=>by rw [qt] at hb;subst hb;subst e;exact hnp ha⟩
 have h2:(l++[p]).length<=((List.range c.pk.length).filter fun p=>decide (c.has p r o)).length:=by
  refine Go.Vx.cV2 h1 fun x hx=>?_
  ·rw [qP,qL,jy]
   rcases qH.1 hx with hx|hx
   ·exact hl x hx
   ·rw [qt] at hx;subst hx;exact ⟨hp,hh⟩
 rw [qw,qM] at h2
 rw [List.countP_eq_length_filter]
 exact h2
structure EnO (c:RCtx) (st st':RunZ) (r p k:Nat):Prop where
 q:∀a b,st'.q a b=if a=r/\b<k/\c.has p r b then st.q a b++[p] else st.q a b
 co:st'.co=st.co
 arr:st'.arr=st.arr
 drp:st'.drp=st.drp
theorem cS2 {c:RCtx}(hc:RCtxOk c){st:RunZ}{t r p:Nat}(hp:p<c.pk.length)(hr:r<c.n)(hq:∀o x,x∈st.q r o->x<c.pk.length/\c.has x r o)(hn:∀o,(st.q r o).Nodup)(hno:∀o,p∉st.q r o):
  ∀k,k<=5->EnO c st ((List.range k).foldl (cW7 c.s t r p (c.outs p r)) st) r p k
 |0,_=>⟨fun a b=>by rw [jk qZ];rfl,rfl,rfl,rfl⟩
 |k+1,hk=>by
  have ih:=cS2 hc (t:=t) hp hr hq hn hno k qZ
  rw [Qz,Qx]
  obtain ⟨S,hS⟩:=gX ((List.range k).foldl (cW7 c.s t r p (c.outs p r)) st)
  rw [hS] at ih ⊢
  show EnO c st (cW7 c.s t r p (c.outs p r) S k) r p (k+1)
  unfold cW7
  have hqk:S.q r k=st.q r k:=by rw [ih.q,jk qZ]
  by_cases hh:bH9 (c.outs p r) (bK1 k)
  ·rw [jw hh]
   have hfew:=dY4 hc (p:=p) (r:=r) (o:=k) qZ (fun x hx=>hq k x hx) (hn k) hp hh (hno k)
   have hlead:bS3 c.s.wide c.s.high (r:Int) (bK1 k):=by
    by_cases h4:k<4
    ·exact (hc.edge p r k hp hr h4 hh).1
    ·have:k=4:=by omega
     subst this
     unfold bS3 bK1
     simp
   have hroom:=hc.room
   rw [jk (by rw [hqk];rintro (h|h);exact h hlead;omega)]
   refine ⟨fun a b=>?_,ih.co,ih.arr,ih.drp⟩
   show upQ S.q r k (S.q r k++[p]) a b=_
   unfold upQ
   by_cases hab:a=r/\b=k
   ·rw [jw hab,jw ⟨hab.1,by omega,by rw [hab.2];exact hh⟩,hqk,hab.1,hab.2]
   ·rw [jk hab,ih.q]
    by_cases h1:a=r/\b<k/\c.has p r b
    ·rw [jw h1,jw ⟨h1.1,by omega,h1.2.2⟩]
    ·rw [jk h1,jk fun h2=>h1 ⟨h2.1,by have:=h2.2.1;by_cases hb:b=k;exact absurd ⟨h2.1,hb⟩ hab;omega,h2.2.2⟩]
  ·rw [jk hh]
   refine ⟨fun a b=>?_,ih.co,ih.arr,ih.drp⟩
   rw [ih.q]
   by_cases h1:a=r/\b<k/\c.has p r b
   ·rw [jw h1,jw ⟨h1.1,by omega,h1.2.2⟩]
   ·rw [jk h1,jk fun h2=>h1 ⟨h2.1,by
     have:=h2.2.1
     by_cases hb:b=k
     ·rw [hb] at h2;exact absurd h2.2.2 hh
     ·omega,h2.2.2⟩]
theorem dR5 {c:RCtx}(hc:RCtxOk c){st:RunZ}{ent:Nat->Nat->Prop}{snt:Nat->Nat->Nat->Prop}{dl:Nat->Nat->Nat}{rd:Nat->Prop}{t r p:Nat}{rest:List Nat}
  (h:RInv c st ent snt dl t (fun _ _=>True) rd fun x y=>y=r/\x∈p::rest) (hn:(p::rest).Nodup) (hdl:∀o,dl r o=t):
  ∃ent',RInv c (cW6 c.s c.tabs c.pk t r st p) ent' snt dl t (fun _ _=>True) rd fun x y=>y=r/\x∈rest:=by
 obtain ⟨hp,hr,ho0,hne,hdp,hco,hsr⟩:=h.pe p r ⟨rfl,qg⟩
 rw [QC] at hn
 have hno:∀o,p∉st.q r o:=fun o hm=>hne (h.q r o p hm).2.2.2.2.1
 have hE:=cS2 hc (t:=t) hp hr (fun o x hx=>⟨(h.q r o x hx).1,(h.q r o x hx).2.2.2.1⟩) (fun o=>h.qn r o) hno 5 (qA _)
 have hst:cW6 c.s c.tabs c.pk t r st p=(List.range 5).foldl (cW7 c.s t r p (c.outs p r)) st:=by
  unfold cW6
  rw [hc.find p r hp hr ho0]
 rw [hst]
 obtain ⟨S,hS⟩:=gX ((List.range 5).foldl (cW7 c.s t r p (c.outs p r)) st)
 rw [hS] at hE ⊢
 have hmul:(c.dep p r+1)*c.L=c.dep p r*c.L+c.L:=by rw [QD,Nat.one_mul]
 refine ⟨fun a b=>ent a b\/(a=p/\b=r),?_,?_,?_,?_,?_,?_,?_,?_,?_,?_,?_,?_,?_,?_,?_⟩
 ·intro a b x hx
  rw [hE.q] at hx
  by_cases h1:a=r/\b<5/\c.has p a b
  ·obtain ⟨rfl,h2,h3⟩:=h1
   rw [jw ⟨rfl,h2,h3⟩] at hx
   rcases qH.1 hx with hx|hx
   ·obtain ⟨a1,a2,a3,a4,a5,a6⟩:=h.q _ _ _ hx
    exact ⟨a1,a2,a3,a4,.inl a5,a6⟩
   ·rw [qt] at hx
    subst hx
    exact ⟨hp,hr,h2,h3,.inr ⟨rfl,rfl⟩,fun h4=>hne (h.sn _ _ _ h4).1⟩
  ·rw [jk (fun h2=>h1 ⟨h2.1,h2.2.1,by rw [h2.1];exact h2.2.2⟩)] at hx
   obtain ⟨a1,a2,a3,a4,a5,a6⟩:=h.q _ _ _ hx
   exact ⟨a1,a2,a3,a4,.inl a5,a6⟩
 ·intro a b
  rw [hE.q]
  split
  ·rename_i h1
   rw [h1.1,Qe]
   exact ⟨h.qn _ _,by simp,fun x hx y hy e=>by rw [qt] at hy;subst hy;subst e;exact hno b hx⟩
  ·exact h.qn _ _
 ·intro a b i x hx
  rw [hE.q] at hx
  split at hx
  ·rename_i h1
   obtain ⟨rfl,h2,h3⟩:=h1
   rw [List.getElem?_append] at hx
   split at hx
   ·exact h.qd _ _ _ _ hx
   ·rename_i h4
    have hfew:=dY4 hc (l:=st.q a b) h2 (fun y hy=>⟨(h.q a b y hy).1,(h.q a b y hy).2.2.2.1⟩) (h.qn a b) hp h3 (hno b)
    have hi:i - (st.q a b).length=0:=by
     cases he:i - (st.q a b).length with
     |zero=>rfl
     |succ k=>rw [he] at hx;simp at hx
    rw [hi] at hx
    simp only [QX,qK] at hx
    subst hx
    have:=hdl b
    omega
  ·exact h.qd _ _ _ _ hx
 ·intro a b x hx
  rw [hE.co] at hx
  obtain ⟨a1,a2,a3,a4,a5,a6⟩:=h.co a b x hx
  refine ⟨a1,a2,a3,?_,a5,a6⟩
  rintro (h5|⟨rfl,rfl⟩)
  ·exact a4 h5
  ·exact hco b hx
 ·rintro x a o (hx|⟨rfl,rfl⟩) h5 h6
  ·rcases h.all x a o hx h5 h6 with h7|h7
   ·left
    rw [hE.q]
    split
    ·exact QW _ h7
    ·exact h7
   ·exact .inr h7
  ·left
   rw [hE.q,jw ⟨rfl,h5,h6⟩]
   exact QT _ qg
 ·intro x a o hs h4
  rw [hE.co]
  rcases h.on x a o hs h4 with h5|h5|⟨h5,h6⟩
  ·exact .inl (.inl h5)
  ·exact .inr (.inl h5)
  ·rcases qQ.1 h6 with rfl|h6
   ·exact .inl (.inr ⟨rfl,h5⟩)
   ·exact .inr (.inr ⟨h5,h6⟩)
 ·intro x a o hs
  obtain ⟨h1,h2⟩:=h.sn x a o hs
  exact ⟨.inl h1,h2⟩
 ·rintro x a (hx|⟨rfl,rfl⟩)
  ·exact h.en x a hx
  ·exact ⟨hp,hr,ho0⟩
 ·rintro x a ((hx|⟨rfl,rfl⟩)|⟨rfl,hx⟩)
  ·exact h.pa x a (.inl hx)
  ·exact h.pa x a (.inr ⟨rfl,qg⟩)
  ·exact h.pa x a (.inr ⟨rfl,qu _ hx⟩)
 ·rintro x a ⟨rfl,hx⟩
  obtain ⟨a1,a2,a3,a4,a5,a6,a7⟩:=h.pe x a ⟨rfl,qu _ hx⟩
  refine ⟨a1,a2,a3,?_,a5,by rw [hE.co];exact a6,a7⟩
  rintro (h5|⟨rfl,_⟩)
  ·exact a4 h5
  ·exact hn.1 hx
 ·intro x hx
  obtain ⟨h1,h2⟩:=h.rt x hx
  refine ⟨fun h3=>?_,fun h3=>?_⟩
  ·rcases h1 h3 with h4|⟨h4,h5⟩
   ·exact .inl (.inl h4)
   ·rcases qQ.1 h5 with rfl|h5
    ·exact .inl (.inr ⟨rfl,h4⟩)
    ·exact .inr ⟨h4,h5⟩
  ·rintro (h4|⟨rfl,h4⟩)
   ·exact h2 h3 h4
   ·exact h3 (h4▸hsr h4)
 ·intro x a u hx
  rw [hE.arr] at hx
  exact h.ar x a u hx
 ·rw [hE.arr];exact h.an
 ·rw [hE.arr];exact h.aa
 ·rw [hE.drp];exact h.dr
theorem dR6 {c:RCtx}(hc:RCtxOk c){snt:Nat->Nat->Nat->Prop}{dl:Nat->Nat->Nat}{rd:Nat->Prop}{t r:Nat}(hdl:∀o,dl r o=t):∀(l:List Nat) {st:RunZ} {ent:Nat->Nat->Prop},
  RInv c st ent snt dl t (fun _ _=>True) rd (fun x y=>y=r/\x∈l)->l.Nodup->∃ent',RInv c (l.foldl (cW6 c.s c.tabs c.pk t r) st) ent' snt dl t (fun _ _=>True) rd fun x y=>y=r/\x∈([]:List Nat)
 |[],st,ent,h,_=>⟨ent,h⟩
 |p::rest,st,ent,h,hn=>by
  obtain ⟨ent',h'⟩:=dR5 hc h hn hdl
  rw [QC] at hn
  exact dR6 hc hdl rest h' hn.2
theorem fH7 {st:RunZ}{r p:Nat}:p∈cF8 st r<->∃b,b<4/\st.co r b=some p:=by
 unfold cF8
 rw [List.mem_filterMap]
 constructor
 ·rintro ⟨b,hb,h⟩;exact ⟨b,qL.1 hb,h⟩
 ·rintro ⟨b,hb,h⟩;exact ⟨b,qL.2 hb,h⟩
theorem fH6 {c:RCtx}{r p:Nat}:p∈cL4 c.pk r<->p<c.pk.length/\c.src p=r:=by
 unfold cL4 RCtx.src
 rw [qP,qL,jy]
theorem bC2 {f:Nat->Option Nat}(hf:∀a b x,f a=some x->f b=some x->a=b):∀l:List Nat,l.Nodup->(l.filterMap f).Nodup
 |[],_=>by simp
 |a::l,h=>by
  rw [QC] at h
  rw [List.filterMap_cons]
  split
  ·exact bC2 hf l h.2
  ·rename_i x hx
   rw [QC]
   refine ⟨fun hm=>?_,bC2 hf l h.2⟩
   obtain ⟨b,hb,hbx⟩:=List.mem_filterMap.1 hm
   exact h.1 (hf a b x hx hbx▸hb)
theorem RInv.comin_nodup {c:RCtx}(hc:RCtxOk c){st ent snt dl cdl proc rd pend}(h:RInv c st ent snt dl cdl proc rd pend)(r:Nat):(cF8 st r).Nodup:=by
 unfold cF8
 refine bC2 ?_ _ List.nodup_range
 intro a b x ha hb
 obtain ⟨a1,a2,a3,a4,a5,r1,o1,b1,b2,b3,b4,b5,b6,b7⟩:=h.co r a x ha
 obtain ⟨_,_,_,_,_,r2,o2,d1,d2,d3,d4,d5,d6,d7⟩:=h.co r b x hb
 have:=(hc.par x r1 o1 r2 o2 a1 b1 d1 b2 d2 b3 d3 (b5.trans d5.symm)).2
 rw [b6,d6,this]
theorem fD9 {c:RCtx}(hc:RCtxOk c){st:RunZ}{ent:Nat->Nat->Prop}{snt:Nat->Nat->Nat->Prop}{dl:Nat->Nat->Nat}{rd:Nat->Prop}{t r:Nat}(hr:r<c.n)
  (h:RInv c st ent snt dl t (fun _ _=>True) rd fun _ _=>False) (hrd:t=0/\¬rd r\/t≠0/\rd r):
  RInv c (dX4 st r) ent snt dl t (fun _ _=>True) (fun y=>rd y\/y=r) (fun x y=>y=r/\x∈cF8 st r++if t=0 then cL4 c.pk r else [])/\(cF8 st r++if t=0 then cL4 c.pk r else []).Nodup:=by
 have hout:∀x,x∈cF8 st r->x<c.pk.length/\c.outs x r≠0/\¬ent x r/\t<=c.dep x r*c.L/\r≠c.src x/\∃r0 o0,r0<c.n/\o0<4/\c.has x r0 o0/\snt x r0 o0/\c.nx r0 o0=r:=by
  intro x hx
  obtain ⟨b,hb,hx⟩:=fH7.1 hx
  obtain ⟨a1,a2,a3,a4,a5,r1,o1,b1,b2,b3,b4,b5,b6,b7⟩:=h.co r b x hx
  obtain ⟨e1,e2,e3,e4,e5⟩:=hc.edge x r1 o1 a1 b1 b2 b3
  rw [b5] at e3 e5
  exact ⟨a1,e3,a4,a5,e5,r1,o1,b1,b2,b3,b4,b5⟩
 have hsn:∀x,(x∈if t=0 then cL4 c.pk r else [])->t=0/\x<c.pk.length/\c.src x=r:=by
  intro x hx
  by_cases h0:t=0
  ·rw [jw h0] at hx;exact ⟨h0,fH6.1 hx⟩
  ·rw [jk h0] at hx;simp at hx
 refine ⟨⟨?_,?_,?_,?_,?_,?_,?_,?_,?_,?_,?_,?_,?_,?_,?_⟩,?_⟩
 ·exact h.q
 ·exact h.qn
 ·exact h.qd
 ·intro a b x hx
  simp only [dX4] at hx
  split at hx
  ·cases hx
  ·exact h.co a b x hx
 ·exact h.all
 ·intro x a o hs h4
  rcases h.on x a o hs h4 with h5|h5|h5
  ·exact .inl h5
  ·by_cases h6:c.nx a o=r
   ·refine .inr (.inr ⟨h6,QW _ (fH7.2 ⟨cZ6 o,dK3 o,?_⟩)⟩)
    rw [<-h6];exact h5
   ·refine .inr (.inl ?_)
    simp only [dX4]
    rw [jk h6];exact h5
  ·exact h5.elim
 ·exact h.sn
 ·exact h.en
 ·rintro x y (hx|⟨rfl,hx⟩)
  ·exact h.pa x y (.inl hx)
  ·rcases qH.1 hx with hx|hx
   ·exact .inr (hout x hx).2.2.2.2.2
   ·exact .inl (hsn x hx).2.2.symm
 ·rintro x a ⟨rfl,hx⟩
  rcases qH.1 hx with hx|hx
  ·obtain ⟨a1,a2,a3,a4,a5,a6⟩:=hout x hx
   exact ⟨a1,hr,a2,a3,a4,fun b=>by simp [dX4],fun _=>.inr rfl⟩
  ·obtain ⟨h0,h1,h2⟩:=hsn x hx
   obtain ⟨b1,b2,b3⟩:=hc.root x h1
   rw [h2] at b1 b2 b3
   refine ⟨h1,hr,b2,?_,by omega,fun b=>by simp [dX4],fun _=>.inr rfl⟩
   have:=(h.rt x h1).2
   rw [h2] at this
   rcases hrd with hrd|hrd
   ·exact this hrd.2
   ·exact absurd h0 hrd.1
 ·intro x hx
  obtain ⟨h1,h2⟩:=h.rt x hx
  refine ⟨fun h3=>?_,fun h3 h4=>h2 (fun h5=>h3 (.inl h5)) h4⟩
  by_cases h4:rd (c.src x)
  ·rcases h1 h4 with h5|h5
   ·exact .inl h5
   ·exact h5.elim
  ·have h5:c.src x=r:=h3.resolve_left h4
   rcases hrd with hrd|hrd
   ·refine .inr ⟨h5,QT _ ?_⟩
    rw [jw hrd.1]
    exact fH6.2 ⟨hx,h5⟩
   ·exact absurd (h5▸hrd.2) h4
 ·exact h.ar
 ·exact h.an
 ·exact h.aa
 ·exact h.dr
 ·rw [Qe]
  refine ⟨h.comin_nodup hc r,?_,?_⟩
  ·split
   ·exact List.nodup_range.filter _
   ·simp
  ·rintro x hx y hy rfl
   exact (hout x hx).2.2.2.2.1 (hsn x hy).2.2.symm
theorem RInv.noPend {c:RCtx}{st ent snt dl cdl proc rd}{pend pend':Nat->Nat->Prop}(h:RInv c st ent snt dl cdl proc rd pend)(hp:∀x y,pend x y<->pend' x y):RInv c st ent snt dl cdl proc rd pend':=by
 have:pend=pend':=by funext x y;exact propext (hp x y)
 exact this▸h
theorem RInv.rdEq {c:RCtx}{st ent snt dl cdl proc pend}{rd rd':Nat->Prop}(h:RInv c st ent snt dl cdl proc rd pend)(hp:∀x,rd x<->rd' x):RInv c st ent snt dl cdl proc rd' pend:=by
 have:rd=rd':=by funext x;exact propext (hp x)
 exact this▸h
theorem lW6 {c:RCtx}(hc:RCtxOk c){st:RunZ}{ent:Nat->Nat->Prop}{snt:Nat->Nat->Nat->Prop}{dl:Nat->Nat->Nat}{rd:Nat->Prop}{t r:Nat}(hr:r<c.n)(hdl:∀o,dl r o=t)
  (h:RInv c st ent snt dl t (fun _ _=>True) rd fun _ _=>False) (hrd:t=0/\¬rd r\/t≠0/\rd r):
  ∃ent',RInv c (inR c.s c.tabs c.pk t st r) ent' snt dl t (fun _ _=>True) (fun y=>rd y\/y=r) fun _ _=>False:=by
 obtain ⟨h1,h2⟩:=fD9 hc hr h hrd
 obtain ⟨ent',h3⟩:=dR6 hc hdl _ h1 h2
 exact ⟨ent',h3.noPend fun x y=>by simp⟩
theorem gQ9 {c:RCtx}(hc:RCtxOk c){st:RunZ}{ent:Nat->Nat->Prop}{snt:Nat->Nat->Nat->Prop}{t:Nat}
  (h:RInv c st ent snt (fun _ _=>t) t (fun _ _=>True) (fun _=>t≠0) fun _ _=>False):∀k,k<=c.n->
  ∃ent',RInv c ((List.range k).foldl (inR c.s c.tabs c.pk t) st) ent' snt (fun _ _=>t) t (fun _ _=>True) (fun y=>t≠0\/y<k) fun _ _=>False
 |0,_=>⟨ent,h.rdEq fun x=>by omega⟩
 |k+1,hk=>by
  obtain ⟨ent',ih⟩:=gQ9 hc h k qZ
  rw [Qz,Qx]
  obtain ⟨e2,h2⟩:=lW6 hc (r:=k) qZ oR ih qZ
  exact ⟨e2,h2.rdEq fun x=>by omega⟩
theorem hD0 (s:Spc)(t r p:Nat)(outs:Int)(st:RunZ)(o:Nat):(cW7 s t r p outs st o).co=st.co:=by
 unfold cW7
 split
 ·split<;>rfl
 ·rfl
theorem fZ0 {α:Type}{f:RunZ->α->RunZ}(hf:∀s a,(f s a).co=s.co):∀(l:List α) (s:RunZ),(l.foldl f s).co=s.co
 |[],_=>rfl
 |a::l,s=>(fZ0 hf l (f s a)).trans (hf s a)
theorem hP9 (s:Spc)(tabs:List (List Ety))(pk:List Pkt)(t r:Nat)(st:RunZ)(p:Nat):(cW6 s tabs pk t r st p).co=st.co:=by
 unfold cW6
 split
 ·rfl
 ·exact fZ0 (hD0 s t r p _) _ _
theorem lW7 (s:Spc)(tabs:List (List Ety))(pk:List Pkt)(t:Nat)(st:RunZ)(r a b:Nat):(inR s tabs pk t st r).co a b=if a=r then none else st.co a b:=by
 unfold inR
 rw [fZ0 (hP9 s tabs pk t r)]
 rfl
theorem hH8 (s:Spc)(tabs:List (List Ety))(pk:List Pkt)(t:Nat)(st:RunZ)(a b:Nat):∀k,((List.range k).foldl (inR s tabs pk t) st).co a b=if a<k then none else st.co a b
 |0=>by simp
 |k+1=>by
  rw [Qz,Qx]
  show (inR s tabs pk t _ k).co a b=_
  rw [lW7,hH8 s tabs pk t st a b k]
  by_cases h1:a=k
  ·rw [jw h1,jw qZ]
  ·rw [jk h1]
   by_cases h2:a<k
   ·rw [jw h2,jw qZ]
   ·rw [jk h2,jk qZ]
def bef (r o a b:Nat):Prop:=a<r\/a=r/\b<o
instance (r o a b:Nat):Decidable (bef r o a b):=by unfold bef;infer_instance
def dlO (t r o a b:Nat):Nat:=if bef r o a b then t+1 else t
theorem cC4 (r o a b:Nat):bef r (o+1) a b<->bef r o a b\/a=r/\b=o:=by unfold bef;omega
theorem hJ7 {c:RCtx}(hc:RCtxOk c){st:RunZ}{ent:Nat->Nat->Prop}{snt:Nat->Nat->Nat->Prop}{rd:Nat->Prop}{t r o:Nat}(hr:r<c.n)(ho:o<5)
  (h:RInv c st ent snt (dlO t r o) (t+1) (bef r o) rd fun _ _=>False):
  ∃snt',RInv c (dW6 c.s t r st o) ent snt' (dlO t r (o+1)) (t+1) (bef r (o+1)) rd fun _ _=>False:=by
 have hnb:¬bef r o r o:=by unfold bef;omega
 have hd0:dlO t r o r o=t:=by unfold dlO;rw [jk hnb]
 have hd1:dlO t r (o+1) r o=t+1:=by unfold dlO;rw [jw ((cC4 r o r o).2 (.inr ⟨rfl,rfl⟩))]
 have hd2:∀a b,¬(a=r/\b=o)->dlO t r (o+1) a b=dlO t r o a b:=fun a b hab=>by
  unfold dlO
  by_cases h1:bef r o a b
  ·rw [jw h1,jw ((cC4 r o a b).2 (.inl h1))]
  ·rw [jk h1,jk fun h2=>((cC4 r o a b).1 h2).elim h1 hab]
 have hbf:∀{a b},bef r o a b->bef r (o+1) a b:=fun h1=>(cC4 r o _ _).2 (.inl h1)
 unfold dW6
 cases hq:st.q r o with
 |nil=>
  refine ⟨snt,?_,h.qn,?_,?_,h.all,h.on,h.sn,h.en,h.pa,h.pe,h.rt,h.ar,h.an,h.aa,h.dr⟩
  ·exact h.q
  ·intro a b i p hp
   by_cases hab:a=r/\b=o
   ·rw [hab.1,hab.2,hq] at hp;simp at hp
   ·rw [hd2 a b hab];exact h.qd a b i p hp
  ·intro a b p hp
   obtain ⟨a1,a2,a3,a4,a5,r0,o0,b1,b2,b3,b4,b5,b6,b7⟩:=h.co a b p hp
   exact ⟨a1,a2,a3,a4,a5,r0,o0,b1,b2,b3,b4,b5,b6,hbf b7⟩
 |cons p l=>
  obtain ⟨p1,p2,p3,p4,p5,p6⟩:=h.q r o p (by rw [hq];exact qg)
  have hnd:=h.qn r o
  rw [hq,QC] at hnd
  have hp0:=h.qd r o 0 p (by rw [hq];rfl)
  rw [hd0] at hp0
  -- queues afterwards
  have kq:∀(snt':Nat->Nat->Nat->Prop),(∀x a b,snt' x a b<->snt x a b\/(x=p/\a=r/\b=o))->∀a b x,x∈upQ st.q r o l a b->x<c.pk.length/\a<c.n/\b<5/\c.has x a b/\ent x a/\¬snt' x a b:=by
   intro snt' hs a b x hx
   unfold upQ at hx
   split at hx
   ·rename_i h1
    obtain ⟨rfl,rfl⟩:=h1
    obtain ⟨c1,c2,c3,c4,c5,c6⟩:=h.q a b x (by rw [hq];exact qu _ hx)
    refine ⟨c1,c2,c3,c4,c5,fun h2=>?_⟩
    rcases (hs x a b).1 h2 with h2|h2
    ·exact c6 h2
    ·exact hnd.1 (h2.1▸hx)
   ·rename_i h1
    obtain ⟨c1,c2,c3,c4,c5,c6⟩:=h.q a b x hx
    refine ⟨c1,c2,c3,c4,c5,fun h2=>?_⟩
    rcases (hs x a b).1 h2 with h2|h2
    ·exact c6 h2
    ·exact h1 h2.2
  have kn:∀a b,(upQ st.q r o l a b).Nodup:=by
   intro a b
   unfold upQ
   split
   ·exact hnd.2
   ·exact h.qn a b
  have kd:∀a b (i x:Nat),(upQ st.q r o l a b)[i]? =some x->dlO t r (o+1) a b+i+1<=(c.dep x a+1)*c.L:=by
   intro a b i x hx
   unfold upQ at hx
   split at hx
   ·rename_i h1
    obtain ⟨rfl,rfl⟩:=h1
    have:=h.qd a b (i+1) x (by rw [hq];exact hx)
    rw [hd1]
    rw [hd0] at this
    omega
   ·rename_i h1
    rw [hd2 a b h1];exact h.qd a b i x hx
  have ka:∀(snt':Nat->Nat->Nat->Prop),(∀x a b,snt' x a b<->snt x a b\/(x=p/\a=r/\b=o))->∀x a b,ent x a->b<5->c.has x a b->x∈upQ st.q r o l a b\/snt' x a b:=by
   intro snt' hs x a b h1 h2 h3
   rcases h.all x a b h1 h2 h3 with h4|h4
   ·unfold upQ
    by_cases hab:a=r/\b=o
    ·rw [jw hab]
     obtain ⟨rfl,rfl⟩:=hab
     rw [hq] at h4
     rcases qQ.1 h4 with rfl|h4
     ·exact .inr ((hs _ _ _).2 (.inr ⟨rfl,rfl,rfl⟩))
     ·exact .inl h4
    ·rw [jk hab];exact .inl h4
   ·exact .inr ((hs _ _ _).2 (.inl h4))
  have hs:∀x a b,(snt x a b\/(x=p/\a=r/\b=o))<->snt x a b\/(x=p/\a=r/\b=o):=fun _ _ _=>Iff.rfl
  by_cases h4:o=4
  ·refine ⟨fun x a b=>snt x a b\/(x=p/\a=r/\b=o),?_⟩
   dsimp only
   rw [jw h4]
   refine ⟨kq _ hs,kn,kd,?_,ka _ hs,?_,?_,h.en,?_,?_,h.rt,?_,?_,?_,h.dr⟩
   ·intro a b x hx
    obtain ⟨a1,a2,a3,a4,a5,r0,o0,b1,b2,b3,b4,b5,b6,b7⟩:=h.co a b x hx
    exact ⟨a1,a2,a3,a4,a5,r0,o0,b1,b2,b3,.inl b4,b5,b6,hbf b7⟩
   ·intro x a b h1 h2
    rcases h1 with h1|h1
    ·exact h.on x a b h1 h2
    ·omega
   ·intro x a b h1
    rcases h1 with h1|⟨rfl,rfl,rfl⟩
    ·exact h.sn x a b h1
    ·exact ⟨p5,p3,p4⟩
   ·intro x y h1
    rcases h.pa x y h1 with h2|⟨r0,o0,b1,b2,b3,b4,b5⟩
    ·exact .inl h2
    ·exact .inr ⟨r0,o0,b1,b2,b3,.inl b4,b5⟩
   ·intro x y h1;exact h1.elim
   ·intro x a u hx
    rcases qH.1 hx with hx|hx
    ·obtain ⟨e1,e2⟩:=h.ar x a u hx
     exact ⟨.inl e1,e2⟩
    ·simp only [qt,Prod.mk.injEq] at hx
     obtain ⟨rfl,rfl,rfl⟩:=hx
     exact ⟨.inr ⟨rfl,rfl,h4.symm⟩,by omega⟩
   ·rw [ql,Qe]
    refine ⟨h.an,by simp,?_⟩
    rintro x hx y hy rfl
    simp only [qI,QA,qt] at hy
    subst hy
    obtain ⟨⟨x1,x2,x3⟩,hm,he⟩:=qo.1 hx
    simp only [Prod.mk.injEq] at he
    obtain ⟨rfl,rfl⟩:=he
    exact p6 (h4▸(h.ar _ _ _ hm).1)
   ·intro x a h1
    rcases h1 with h1|⟨rfl,rfl,_⟩
    ·obtain ⟨u,hu⟩:=h.aa x a h1
     exact ⟨u,QW _ hu⟩
    ·exact ⟨t,QT _ qg⟩
  ·have ho4:o<4:=by omega
   obtain ⟨e1,e2,e3,e4,e5⟩:=hc.edge p r o p1 hr ho4 p4
   have hne:¬ent p (c.nx r o):=by
    intro h1
    rcases h.pa p _ (.inl h1) with h2|⟨r0,o0,b1,b2,b3,b4,b5⟩
    ·exact e5 h2
    ·obtain ⟨rfl,rfl⟩:=hc.par p r0 o0 r o p1 b1 hr b2 ho4 b3 p4 b5
     exact p6 b4
   have hfree:st.co (c.nx r o) (cZ6 o)=none:=by
    cases hx:st.co (c.nx r o) (cZ6 o) with
    |none=>rfl
    |some x=>
     obtain ⟨a1,a2,a3,a4,a5,r0,o0,b1,b2,b3,b4,b5,b6,b7⟩:=h.co _ _ x hx
     have:=hN6 ho4 b2 b6
     subst this
     have:=hc.inj r0 r o b1 hr ho4 (hc.edge x r0 o a1 b1 b2 b3).1 e1 b5
     subst this
     exact absurd b7 hnb
   refine ⟨fun x a b=>snt x a b\/(x=p/\a=r/\b=o),?_⟩
   dsimp only
   rw [jk h4]
   refine ⟨kq _ hs,kn,kd,?_,ka _ hs,?_,?_,h.en,?_,?_,h.rt,?_,h.an,?_,h.dr⟩
   ·intro a b x hx
    change upC st.co (c.nx r o) (cZ6 o) (some p) a b=some x at hx
    unfold upC at hx
    split at hx
    ·rename_i h1
     obtain ⟨rfl,rfl⟩:=h1
     simp only [qK] at hx
     subst hx
     refine ⟨p1,e2,dK3 o,hne,by rw [e4];omega,r,o,hr,ho4,p4,.inr ⟨rfl,rfl,rfl⟩,rfl,rfl,(cC4 r o r o).2 (.inr ⟨rfl,rfl⟩)⟩
    ·obtain ⟨a1,a2,a3,a4,a5,r0,o0,b1,b2,b3,b4,b5,b6,b7⟩:=h.co a b x hx
     exact ⟨a1,a2,a3,a4,a5,r0,o0,b1,b2,b3,.inl b4,b5,b6,hbf b7⟩
   ·intro x a b h1 h2
    show ent x (c.nx a b)\/upC st.co (c.nx r o) (cZ6 o) (some p) (c.nx a b) (cZ6 b)=some x\/False
    unfold upC
    rcases h1 with h1|⟨rfl,rfl,rfl⟩
    ·rcases h.on x a b h1 h2 with h3|h3|h3
     ·exact .inl h3
     ·refine .inr (.inl ?_)
      rw [jk]
      ·exact h3
      ·rintro ⟨h5,h6⟩
       rw [h5,h6,hfree] at h3
       cases h3
     ·exact h3.elim
    ·exact .inr (.inl (by rw [jw ⟨rfl,rfl⟩]))
   ·intro x a b h1
    rcases h1 with h1|⟨rfl,rfl,rfl⟩
    ·exact h.sn x a b h1
    ·exact ⟨p5,p3,p4⟩
   ·intro x y h1
    rcases h.pa x y h1 with h2|⟨r0,o0,b1,b2,b3,b4,b5⟩
    ·exact .inl h2
    ·exact .inr ⟨r0,o0,b1,b2,b3,.inl b4,b5⟩
   ·intro x y h1;exact h1.elim
   ·intro x a u hx
    obtain ⟨e1,e2⟩:=h.ar x a u hx
    exact ⟨.inl e1,e2⟩
   ·intro x a h1
    rcases h1 with h1|⟨rfl,rfl,h5⟩
    ·exact h.aa x a h1
    ·exact absurd h5.symm h4
theorem cT8 {c:RCtx}(hc:RCtxOk c){st:RunZ}{ent:Nat->Nat->Prop}{snt:Nat->Nat->Nat->Prop}{rd:Nat->Prop}{t r:Nat}(hr:r<c.n)
  (h:RInv c st ent snt (dlO t r 0) (t+1) (bef r 0) rd fun _ _=>False):∀k,k<=5->
  ∃snt',RInv c ((List.range k).foldl (dW6 c.s t r) st) ent snt' (dlO t r k) (t+1) (bef r k) rd fun _ _=>False
 |0,_=>⟨snt,h⟩
 |k+1,hk=>by
  obtain ⟨snt',ih⟩:=cT8 hc hr h k qZ
  rw [Qz,Qx]
  exact hJ7 hc hr qZ ih
theorem RInv.dlEq {c:RCtx}{st ent snt cdl rd pend}{dl dl':Nat->Nat->Nat}{proc proc':Nat->Nat->Prop}(h:RInv c st ent snt dl cdl proc rd pend)
  (hd:∀a b,b<5->dl' a b=dl a b) (hp:∀a b,b<4->proc a b->proc' a b):RInv c st ent snt dl' cdl proc' rd pend:=by
 refine ⟨h.q,h.qn,?_,?_,h.all,h.on,h.sn,h.en,h.pa,h.pe,h.rt,h.ar,h.an,h.aa,h.dr⟩
 ·intro a b i p hp
  rw [hd a b (h.q a b p (qz hp)).2.2.1]
  exact h.qd a b i p hp
 ·intro a b p hx
  obtain ⟨a1,a2,a3,a4,a5,r0,o0,b1,b2,b3,b4,b5,b6,b7⟩:=h.co a b p hx
  exact ⟨a1,a2,a3,a4,a5,r0,o0,b1,b2,b3,b4,b5,b6,hp r0 o0 b2 b7⟩
theorem hJ6 {c:RCtx}(hc:RCtxOk c){st:RunZ}{ent:Nat->Nat->Prop}{snt:Nat->Nat->Nat->Prop}{rd:Nat->Prop}{t r:Nat}(hr:r<c.n)
  (h:RInv c st ent snt (dlO t r 0) (t+1) (bef r 0) rd fun _ _=>False):
  ∃snt',RInv c (kQ5 c.s t st r) ent snt' (dlO t (r+1) 0) (t+1) (bef (r+1) 0) rd fun _ _=>False:=by
 obtain ⟨snt',h1⟩:=cT8 hc hr h 5 (qA _)
 refine ⟨snt',h1.dlEq (fun a b hb=>?_) fun a b hb hp=>?_⟩
 ·unfold dlO
  by_cases h2:bef r 5 a b
  ·rw [jw h2,jw (by unfold bef at h2 ⊢;omega)]
  ·rw [jk h2,jk (by unfold bef at h2 ⊢;omega)]
 ·unfold bef at hp ⊢;omega
theorem dW5 {c:RCtx}(hc:RCtxOk c){st:RunZ}{ent:Nat->Nat->Prop}{snt:Nat->Nat->Nat->Prop}{rd:Nat->Prop}{t:Nat}
  (h:RInv c st ent snt (dlO t 0 0) (t+1) (bef 0 0) rd fun _ _=>False):∀k,k<=c.n->
  ∃snt',RInv c ((List.range k).foldl (kQ5 c.s t) st) ent snt' (dlO t k 0) (t+1) (bef k 0) rd fun _ _=>False
 |0,_=>⟨snt,h⟩
 |k+1,hk=>by
  obtain ⟨snt',ih⟩:=dW5 hc h k qZ
  rw [Qz,Qx]
  exact hJ6 hc qZ ih
theorem hS9 {c:RCtx}(hc:RCtxOk c){st:RunZ}{ent:Nat->Nat->Prop}{snt:Nat->Nat->Nat->Prop}{t:Nat}
  (h:RInv c st ent snt (fun _ _=>t) t (fun _ _=>True) (fun _=>t≠0) fun _ _=>False):
  ∃ent' snt',RInv c (hL3 c.s c.tabs c.pk c.n st t) ent' snt' (fun _ _=>t+1) (t+1) (fun _ _=>True) (fun _=>t+1≠0) fun _ _=>False:=by
 obtain ⟨ent',h1⟩:=gQ9 hc h c.n (qA _)
 have hno:∀a b p,((List.range c.n).foldl (inR c.s c.tabs c.pk t) st).co a b=some p->False:=by
  intro a b p hp
  obtain ⟨a1,a2,_⟩:=h1.co a b p hp
  rw [hH8,jw a2] at hp
  cases hp
 obtain ⟨S,hS⟩:=gX ((List.range c.n).foldl (inR c.s c.tabs c.pk t) st)
 unfold hL3
 rw [hS] at h1 hno ⊢
 have h2:RInv c S ent' snt (dlO t 0 0) (t+1) (bef 0 0) (fun _=>t+1≠0) fun _ _=>False:=by
  refine ⟨h1.q,h1.qn,?_,fun a b p hp=>(hno a b p hp).elim,h1.all,h1.on,h1.sn,h1.en,h1.pa,fun x y hx=>hx.elim,?_,h1.ar,h1.an,h1.aa,h1.dr⟩
  ·intro a b i p hp
   have:dlO t 0 0 a b=t:=by unfold dlO;rw [jk (by unfold bef;omega)]
   rw [this];exact h1.qd a b i p hp
  ·intro p hp
   refine ⟨fun _=>(h1.rt p hp).1 (.inr (hc.root p hp).1),fun h3=>absurd (by omega:t+1≠0) h3⟩
 obtain ⟨snt',h3⟩:=dW5 hc h2 c.n (qA _)
 refine ⟨ent',snt',?_⟩
 refine ⟨h3.q,h3.qn,?_,?_,h3.all,h3.on,h3.sn,h3.en,h3.pa,h3.pe,h3.rt,h3.ar,h3.an,h3.aa,h3.dr⟩
 ·intro a b i p hp
  have ha:=(h3.q a b p (qz hp)).2.1
  have:=h3.qd a b i p hp
  unfold dlO at this
  rw [jw (by unfold bef;omega)] at this
  exact this
 ·intro a b p hx
  obtain ⟨a1,a2,a3,a4,a5,r0,o0,b1,b2,b3,b4,b5,b6,b7⟩:=h3.co a b p hx
  exact ⟨a1,a2,a3,a4,a5,r0,o0,b1,b2,b3,b4,b5,b6,trivial⟩
theorem fR5 {c:RCtx}(hc:RCtxOk c):∀T,∃ent snt,RInv c (cL6 c.s c.tabs c.pk c.n T) ent snt (fun _ _=>T) T (fun _ _=>True) (fun _=>T≠0) fun _ _=>False
 |0=>by
  refine ⟨fun _ _=>False,fun _ _ _=>False,?_⟩
  have h0:cL6 c.s c.tabs c.pk c.n 0=hT9:=rfl
  rw [h0]
  refine ⟨?_,?_,?_,?_,?_,?_,?_,?_,?_,?_,?_,?_,?_,?_,rfl⟩
  ·intro r o p h;simp [hT9] at h
  ·intro r o;simp [hT9]
  ·intro r o i p h;simp [hT9] at h
  ·intro r o p h;simp [hT9] at h
  ·intro p r o h;exact h.elim
  ·intro p r o h;exact h.elim
  ·intro p r o h;exact h.elim
  ·intro p r h;exact h.elim
  ·intro p y h;exact (h.elim id id).elim
  ·intro p r h;exact h.elim
  ·intro p hp;exact ⟨fun h=>absurd rfl h,fun _ h=>h⟩
  ·intro p r t h;simp [hT9] at h
  ·simp [hT9]
  ·intro p r h;exact h.elim
 |T+1=>by
  obtain ⟨ent,snt,ih⟩:=fR5 hc T
  obtain ⟨e2,s2,h2⟩:=hS9 hc ih
  refine ⟨e2,s2,?_⟩
  have:cL6 c.s c.tabs c.pk c.n (T+1)=hL3 c.s c.tabs c.pk c.n (cL6 c.s c.tabs c.pk c.n T) T:=by
   unfold cL6;rw [Qz,Qx];rfl
  rw [this];exact h2
structure RunDone (c:RCtx) (st:RunZ):Prop where
 q:∀r o,st.q r o=[]
 co:∀r b,st.co r b=none
 drp:st.drp=[]
 an:(st.arr.map fun x=>(x.1,x.2.1)).Nodup
 ar:∀p r t,(p,r,t)∈st.arr->p<c.pk.length/\r<c.n/\c.has p r 4/\t+1<=(c.dep p r+1)*c.L
 aa:∀p r,p<c.pk.length->r<c.n->c.has p r 4->∃t,(p,r,t)∈st.arr
theorem kQ6 {c:RCtx}(hc:RCtxOk c){D T:Nat}(hD:∀p r,p<c.pk.length->r<c.n->c.outs p r≠0->c.dep p r<=D)
  (hreach:∀p r,p<c.pk.length->r<c.n->c.outs p r≠0->r=c.src p\/∃r0 o0,r0<c.n/\o0<4/\c.has p r0 o0/\c.nx r0 o0=r) (hT:(D+1)*c.L<=T) (hT1:0<T):RunDone c (cL6 c.s c.tabs c.pk c.n T):=by
 obtain ⟨ent,snt,h⟩:=fR5 hc T
 have hq:∀r o,(cL6 c.s c.tabs c.pk c.n T).q r o=[]:=by
  intro r o
  cases hl:(cL6 c.s c.tabs c.pk c.n T).q r o with
  |nil=>rfl
  |cons p l=>
   have h1:=h.qd r o 0 p (by rw [hl];rfl)
   obtain ⟨p1,p2,p3,p4,p5,p6⟩:=h.q r o p (by rw [hl];exact qg)
   have h2:=hD p r p1 p2 (h.en p r p5).2.2
   have h3:(c.dep p r+1)*c.L<=(D+1)*c.L:=Qj _ qZ
   omega
 have hco:∀r b,(cL6 c.s c.tabs c.pk c.n T).co r b=none:=by
  intro r b
  cases hl:(cL6 c.s c.tabs c.pk c.n T).co r b with
  |none=>rfl
  |some p=>
   obtain ⟨a1,a2,a3,a4,a5,r0,o0,b1,b2,b3,b4,b5,b6,b7⟩:=h.co r b p hl
   obtain ⟨e1,e2,e3,e4,e5⟩:=hc.edge p r0 o0 a1 b1 b2 b3
   rw [b5] at e3
   have h2:=hD p r a1 a2 e3
   have h3:c.dep p r*c.L<=D*c.L:=Qj _ h2
   have h4:0<(List.range c.pk.length).countP fun p=>decide (c.has p r0 o0):=List.countP_pos_iff.2 ⟨p,qL.2 a1,by rw [jy];exact b3⟩
   have h5:=hc.load r0 o0 qZ
   have h6:(D+1)*c.L=D*c.L+c.L:=by rw [QD,Nat.one_mul]
   omega
 have hT0:T≠0:=by omega
 have hent:∀d p r,p<c.pk.length->r<c.n->c.outs p r≠0->c.dep p r=d->ent p r:=by
  intro d
  induction d with
  |zero=>
   intro p r hp hr ho hd
   rcases hreach p r hp hr ho with h1|⟨r0,o0,b1,b2,b3,b4⟩
   ·subst h1
    exact ((h.rt p hp).1 hT0).resolve_right id
   ·have:=(hc.edge p r0 o0 hp b1 b2 b3).2.2.2.1
    rw [b4] at this
    omega
  |succ d ih=>
   intro p r hp hr ho hd
   rcases hreach p r hp hr ho with h1|⟨r0,o0,b1,b2,b3,b4⟩
   ·subst h1
    exact ((h.rt p hp).1 hT0).resolve_right id
   ·obtain ⟨e1,e2,e3,e4,e5⟩:=hc.edge p r0 o0 hp b1 b2 b3
    rw [b4] at e4
    have h0:c.outs p r0≠0:=by
     intro h0
     unfold RCtx.has at b3
     rw [h0] at b3
     exact bM5 _ b3
    have h1:=ih p r0 hp b1 h0 qZ
    rcases h.all p r0 o0 h1 qZ b3 with h2|h2
    ·rw [hq] at h2;simp at h2
    ·rcases h.on p r0 o0 h2 b2 with h5|h5|h5
     ·exact b4▸h5
     ·rw [hco] at h5;cases h5
     ·exact h5.elim
 refine ⟨hq,hco,h.dr,h.an,?_,?_⟩
 ·intro p r t hx
  obtain ⟨h1,h2⟩:=h.ar p r t hx
  obtain ⟨h3,h4,h5⟩:=h.sn p r 4 h1
  obtain ⟨h6,h7,h8⟩:=h.en p r h3
  exact ⟨h6,h7,h5,h2⟩
 ·intro p r hp hr hh
  have h0:c.outs p r≠0:=by
   intro h0
   unfold RCtx.has at hh
   rw [h0] at hh
   exact bM5 _ hh
  rcases h.all p r 4 (hent _ p r hp hr h0 rfl) qZ hh with h2|h2
  ·rw [hq] at h2;simp at h2
  ·exact h.aa p r h2
end Go.Gm
